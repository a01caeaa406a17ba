/-
  The reference's borders: sides of an object.
-/
import Derived.Test.YtfkgjbdeicggaaaGreatTopZB
import Derived.Test.YtfkgjbdeicggaaaGreatTopO
import Derived.Test.YtfkgjbdeicggaaaGreatPlainAll
namespace Go.Proofs.YtfkgjbdeicggaaaGreat
open Go.RowKit Go.Proofs.PlLex Go.Proofs.PlNet Go.Proofs.PlMap Go.Proofs.PlGeom Go.Proofs.PlTop
attribute [local go_sem] Oper.semAt_some run_min_str run_max_str

def encP (p : Pr) : List Value := [.string p.1, .string p.2]
def rawP (o : Ob) (k : Nat) : List Pr := (List.range k).map (sideAt o)
def mixP (o : Ob) (k : Nat) : List Pr := (List.range (sidesN o)).map (fun i => if i < k then normP (sideAt o i) else sideAt o i)
theorem rawP_succ (o : Ob) (k : Nat) : rawP o (k + 1) = rawP o k ++ [sideAt o k] := by simp [rawP, List.range_succ]
theorem rawP_len (o : Ob) (k : Nat) : (rawP o k).length = k := by simp [rawP]
theorem mixP_zero (o : Ob) : mixP o 0 = rawP o (sidesN o) := by simp [mixP, rawP]
theorem mixP_len (o : Ob) (k : Nat) : (mixP o k).length = sidesN o := by simp [mixP]
theorem mixP_all (o : Ob) : mixP o (sidesN o) = sidesO o := by
  unfold mixP sidesO
  exact List.map_congr_left (fun i hi => by rw [if_pos (List.mem_range.1 hi)])
theorem mixP_at (o : Ob) (k i : Nat) (h : i < sidesN o) : (mixP o k)[i]? = some (if i < k then normP (sideAt o i) else sideAt o i) := by
  unfold mixP
  rw [List.getElem?_map, List.getElem?_range h]
  rfl
theorem mixP_get (o : Ob) {k : Nat} (h : k < sidesN o) : (mixP o k)[k]? = some (sideAt o k) := by
  rw [mixP_at o k k h, if_neg (by omega)]
theorem mixP_set (o : Ob) {k : Nat} (h : k < sidesN o) : (mixP o k).set k (normP (sideAt o k)) = mixP o (k + 1) := by
  apply List.ext_getElem?
  intro i
  rw [List.getElem?_set]
  by_cases hi : i < sidesN o
  · rw [mixP_at o (k + 1) i hi]
    by_cases e : k = i
    · subst e
      rw [if_pos rfl, if_pos (by rw [mixP_len]; exact h), if_pos (by omega)]
    · rw [if_neg e, mixP_at o k i hi]
      by_cases e2 : i < k
      · rw [if_pos e2, if_pos (by omega)]
      · rw [if_neg e2, if_neg (by omega)]
  · rw [if_neg (by omega), List.getElem?_eq_none (by rw [mixP_len]; omega), List.getElem?_eq_none (by rw [mixP_len]; omega)]
theorem flatP_get (L : List Pr) {k : Nat} {p : Pr} (h : L[k]? = some p) : (L.flatMap encP)[k * 2]? = some (.string p.1) ∧ (L.flatMap encP)[k * 2 + 1]? = some (.string p.2) := by
  induction L generalizing k with
  | nil => simp at h
  | cons q L ih =>
    cases k with
    | zero => simp at h; subst h; simp [encP]
    | succ k =>
      obtain ⟨h1, h2⟩ := ih (by simpa using h)
      rw [Nat.succ_mul, List.flatMap_cons]
      constructor
      · rw [List.getElem?_append_right (by simp [encP])]
        simpa [encP] using h1
      · rw [List.getElem?_append_right (by simp [encP])]
        have : k * 2 + 2 + 1 - (encP q).length = k * 2 + 1 := by simp [encP]
        rw [this]
        exact h2
theorem flatP_set (L : List Pr) {k : Nat} (h : k < L.length) (p : Pr) : ((L.flatMap encP).set (k * 2) (.string p.1)).set (k * 2 + 1) (.string p.2) = (L.set k p).flatMap encP := by
  induction L generalizing k with
  | nil => simp at h
  | cons q L ih =>
    cases k with
    | zero => simp [encP]
    | succ k =>
      have := ih (k := k) (by simpa using h)
      rw [Nat.succ_mul]
      simp only [encP, List.flatMap_cons, List.cons_append, List.nil_append, List.set_cons_succ] at this ⊢
      rw [this]
theorem flatP_len (L : List Pr) : (L.flatMap encP).length = L.length * 2 := by
  induction L with
  | nil => rfl
  | cons q L ih => rw [List.flatMap_cons, List.length_append, ih]; simp [encP]; omega
theorem row_at2 {W : World} {B n s : Nat} {t : TypeId} {v : Value} {xs : List Value} (h : W.ownsRow B t s v n xs) (hn : 1 ≤ n) : ∃ g cap, v = .slice (some ⟨g, 0, none⟩) n cap := by
  rcases h.2 with ⟨_, h0⟩ | ⟨g, cap, cur, hv, _⟩
  · omega
  · exact ⟨g, cap, hv⟩
set_option maxRecDepth 100000 in
set_option maxHeartbeats 8000000 in
/-- The sides of an object of kind 2. -/
theorem sides2_any (o : Ob) (rv tv : Value) (w : World) (hk : o.kind = 2) (hr : StS w rv o.refs) (hl1 : 1 ≤ o.refs.length) (hl : o.refs.length ≤ 1000) :
    Calls Tryz.prog 47 #[.agg (obV o rv tv)] w fun e w' => ∃ v, e = .returned v ∧ w'.ownsRow w.heap.size 87 2 v (sidesO o).length ((sidesO o).flatMap encP) ∧ Below w.heap.size w w' := by
  obtain ⟨j0, hj, hy0, hy1, hy2⟩ := info_parts3 info_key
  have HJ0 := hide hj
  have HY0 := hide hy0
  have HY1 := hide hy1
  have HY2 := hide hy2
  clear hj hy0 hy1 hy2
  have hmx : Tryz.prog.follows .mixedOrders = true := by kernel_rfl
  obtain ⟨A, c, rfl, hc, hs⟩ := hr
  obtain ⟨gr, og, rfl, hgr, hst⟩ := hs.resolve_left (fun e => by rw [e] at hl1; simp at hl1)
  have HSN : Hid (sidesN o = o.refs.length - 1) := hide (by unfold sidesN; rw [hk]; rfl)
  have HSD : Hid (∀ k, k + 1 < o.refs.length → sideAt o k = (o.refs.getD k ⟨#[]⟩, o.refs.getD (k + 1) ⟨#[]⟩)) := hide (fun k h => by unfold sideAt; rw [Nat.mod_eq_of_lt h])
  have HSE : Hid (sideAt o (o.refs.length - 1) = (o.refs.getD (o.refs.length - 1) ⟨#[]⟩, o.refs.getD 0 ⟨#[]⟩)) := hide (by unfold sideAt; rw [Nat.sub_add_cancel hl1, Nat.mod_self])
  have HST := hide hst
  have HGR := hide hgr
  unfold obV
  rw [hk]
  obtain ⟨w1, hw1⟩ : ∃ w1, w.alloc (.cells #[.string o.id, .int .i64 2, .int .i64 o.x, .int .i64 o.y, .slice (some ⟨gr, og, none⟩) o.refs.length c, tv] 47) = w1 := ⟨_, rfl⟩
  have hb1 : Below w.heap.size w w1 := by rw [← hw1]; exact (Below.refl _ _).alloc (Nat.le_refl _) _
  have hx1 : w1.heap[w.heap.size]? = some (.cells #[.string o.id, .int .i64 2, .int .i64 o.x, .int .i64 o.y, .slice (some ⟨gr, og, none⟩) o.refs.length c, tv] 47 (0, 0)) := by rw [← hw1]; exact heap_alloc_new _ _
  obtain ⟨d0, d1, d2, d3, d4, d5⟩ := box6 hx1
  have HB1 := hide hb1
  have HX1 := hide hx1
  have HR0 : Hid (w1.ownsRow w1.heap.size 87 2 (.slice none 0 0) 0 ((rawP o 0).flatMap encP)) := hide (World.ownsRow_nil _ _ _ _)
  clear hb1 hx1 hst hgr hs hk
  go_enter Tryz.func47, Tryz.ntmps47
  go_wp2_with fail
  clear hw1
  go_loopw [3, 4] (fun vo i wr => ∃ (k : Nat) (Ao : Option Addr) (co : Nat), k + 1 ≤ o.refs.length ∧ i = .int .i64 k ∧ vo = .slice Ao k co ∧ Hid (wr.ownsRow w1.heap.size 87 2 (.slice Ao k co) k ((rawP o k).flatMap encP)) ∧ Hid (Below w1.heap.size w1 wr)) (fun _ i _ => o.refs.length - (intOf i).toNat)
  case atStart => exact ⟨0, none, 0, by omega, rfl, rfl, HR0, hide (Below.refl _ _)⟩
  case round =>
    clear HR0 d0 d1 d2 d3 d4 d5
    obtain ⟨k, Ao, co, hk, rfl, rfl, hro, hbr⟩ := hrel
    have hx := blkB hbr.out HX1.out
    obtain ⟨d0, d1, d2, d3, d4, d5⟩ := box6 hx
    by_cases hlt : k + 1 < o.refs.length
    · have k0 : (0 : Int) ≤ (k : Nat) := by omega
      have k1 : ((k : Nat) : Int) < (o.refs.length : Nat) := by omega
      have k2 : ((k : Nat) : Int) + 1 < (o.refs.length : Nat) := by omega
      have k3 : (0 : Int) ≤ ((k : Nat) : Int) + 1 := by omega
      obtain ⟨a, ha⟩ : ∃ a, o.refs[k]? = some a := ⟨_, List.getElem?_eq_getElem (by omega)⟩
      obtain ⟨b, hb⟩ : ∃ b, o.refs[k + 1]? = some b := ⟨_, List.getElem?_eq_getElem (by omega)⟩
      have HSK : Hid (sideAt o k = (a, b)) := hide (by rw [HSD.out k hlt, List.getD_eq_getElem?_getD, List.getD_eq_getElem?_getD, ha, hb]; rfl)
      go_upto_region 7 with (fail)
      have HM : Hid (∀ W, Below w1.heap.size w1 W → W.cell? ⟨w.heap.size, 4, none⟩ = some (.slice (some ⟨gr, og, none⟩) o.refs.length c) ∧ W.cell? ⟨gr, og + k, none⟩ = some (.string a) ∧ W.cell? ⟨gr, og + (k + 1), none⟩ = some (.string b)) := hide (fun W hW => ⟨(box6 (blkB hW HX1.out)).2.2.2.2.1, ((bto HB1.out hW).cell (p := ⟨gr, _, none⟩) HGR.out).trans (HST.out _ a ha), ((bto HB1.out hW).cell (p := ⟨gr, _, none⟩) HGR.out).trans (HST.out _ b hb)⟩)
      refine wp_region_anyM (fun W => Below w1.heap.size w1 W) 15 hmx ?_
      have HRD := hide (own_below hro.out (below_drew wr))
      have HBD := hide (bto hbr.out (below_drew wr))
      clear hro hbr hx d0 d1 d2 d3 d4 d5
      generalize wr.drew = wd at *
      have HS8 : Hid (w1.heap.size ≤ (wd.alloc (.cells #[.string a, .string b] 87)).heap.size) := hide (Nat.le_trans HBD.out.size (by simp))
      have HNW : Hid (∀ (j : Nat) (u : Value), [(Value.string a), (Value.string b)][j]? = some u → (wd.alloc (.cells #[.string a, .string b] 87)).cell? ((⟨wd.heap.size, 0, none⟩ : Addr).add j) = some u) := hide (fun j u hj => World.news_of_block (cs := #[.string a, .string b]) (t := 87) (fr := (0, 0)) (heap_alloc_new wd _) j u hj)
      have HRD2 := HRD
      replace HRD := hide (own_below HRD.out ((Below.refl _ _).alloc (Nat.le_refl _) (.cells #[.string a, .string b] 87)))
      simp only [List.size_toArray, List.length_cons, List.length_nil, Nat.reduceAdd]
      refine wpAnyM_take (i := 0) (v := .slice Ao k co) rfl (by kernel_rfl) (by kernel_rfl) (by kernel_rfl) (by kernel_rfl) (fun _ _ _ h => h) (.inl ⟨by kernel_rfl, fun w hm => rfl⟩) ?_
      refine wpAnyM_take (i := 1) (v := .pointer (some ⟨w.heap.size, 4, none⟩)) rfl (by kernel_rfl) (by kernel_rfl) (by kernel_rfl) (by kernel_rfl) (fun _ _ _ h => h) (.inl ⟨by kernel_rfl, fun w hm => by go_simp⟩) ?_
      refine wpAnyM_take (i := 2) (v := .slice (some ⟨gr, og, none⟩) o.refs.length c) rfl (by kernel_rfl) (by kernel_rfl) (by kernel_rfl) (by kernel_rfl) (fun _ _ _ h => h) (.inl ⟨by kernel_rfl, fun w hm => by obtain ⟨m0, m1, m2⟩ := HM.out w hm; clear m1 m2; go_simp⟩) ?_
      refine wpAnyM_take (i := 3) (v := .int .i64 k) rfl (by kernel_rfl) (by kernel_rfl) (by kernel_rfl) (by kernel_rfl) (fun _ _ _ h => h) (.inl ⟨by kernel_rfl, fun w hm => rfl⟩) ?_
      refine wpAnyM_take (i := 4) (v := .pointer (some ⟨gr, og + k, none⟩)) rfl (by kernel_rfl) (by kernel_rfl) (by kernel_rfl) (by kernel_rfl) (fun _ _ _ h => h) (.inl ⟨by kernel_rfl, fun w hm => by go_simp⟩) ?_
      refine wpAnyM_take (i := 5) (v := .string a) rfl (by kernel_rfl) (by kernel_rfl) (by kernel_rfl) (by kernel_rfl) (fun _ _ _ h => h) (.inl ⟨by kernel_rfl, fun w hm => by obtain ⟨m0, m1, m2⟩ := HM.out w hm; clear m0 m2; go_simp⟩) ?_
      refine wpAnyM_take (i := 6) (v := .pointer (some ⟨w.heap.size, 4, none⟩)) rfl (by kernel_rfl) (by kernel_rfl) (by kernel_rfl) (by kernel_rfl) (fun _ _ _ h => h) (.inl ⟨by kernel_rfl, fun w hm => by go_simp⟩) ?_
      refine wpAnyM_take (i := 7) (v := .slice (some ⟨gr, og, none⟩) o.refs.length c) rfl (by kernel_rfl) (by kernel_rfl) (by kernel_rfl) (by kernel_rfl) (fun _ _ _ h => h) (.inl ⟨by kernel_rfl, fun w hm => by obtain ⟨m0, m1, m2⟩ := HM.out w hm; clear m1 m2; go_simp⟩) ?_
      refine wpAnyM_take (i := 8) (v := .int .i64 k) rfl (by kernel_rfl) (by kernel_rfl) (by kernel_rfl) (by kernel_rfl) (fun _ _ _ h => h) (.inl ⟨by kernel_rfl, fun w hm => by go_simp⟩) ?_
      refine wpAnyM_take (i := 9) (v := .int .i64 (((k : Nat) : Int) + 1)) rfl (by kernel_rfl) (by kernel_rfl) (by kernel_rfl) (by kernel_rfl) (fun _ _ _ h => h) (.inl ⟨by kernel_rfl, fun w hm => by go_simp; exact IntWalk.i64_in _ (by omega)⟩) ?_
      refine wpAnyM_take (i := 10) (v := .pointer (some ⟨gr, og + (k + 1), none⟩)) rfl (by kernel_rfl) (by kernel_rfl) (by kernel_rfl) (by kernel_rfl) (fun _ _ _ h => h) (.inl ⟨by kernel_rfl, fun w hm => by go_simp⟩) ?_
      refine wpAnyM_take (i := 11) (v := .string b) rfl (by kernel_rfl) (by kernel_rfl) (by kernel_rfl) (by kernel_rfl) (fun _ _ _ h => h) (.inl ⟨by kernel_rfl, fun w hm => by obtain ⟨m0, m1, m2⟩ := HM.out w hm; clear m0 m1; go_simp⟩) ?_
      refine wpAnyM_take (i := 12) (v := .agg #[.string a, .string b]) rfl (by kernel_rfl) (by kernel_rfl) (by kernel_rfl) (by kernel_rfl) (fun _ _ _ h => h) (.inl ⟨by kernel_rfl, fun w hm => by go_simp⟩) ?_
      refine wpAnyM_ready (rs := [13]) (by kernel_rfl) (by simp) (HBD.out) ?_
      refine AllReadyM.cons rfl (fun K' hK => ?_) (AllReadyM.nil)
      rw [if_pos (by kernel_rfl)]
      go_simp
      refine hK _ _ ?_
      refine wpAnyM_ready (rs := [14]) (by kernel_rfl) (by simp) (bto HBD.out ((Below.refl _ _).alloc (Nat.le_refl _) _)) ?_
      refine AllReadyM.cons rfl (fun K' hK => ?_) (AllReadyM.nil)
      refine step_append_lies _ rfl (.tmp 22) (.tmp 35) 116 rfl w1.heap.size 87 j0 (.agg #[.string ⟨#[]⟩, .string ⟨#[]⟩]) 2 32 Tryz.underlying116 HJ0.out HY0.out HY1.out HY2.out rfl (by decide) (.slice Ao k co) k ((rawP o k).flatMap encP) rfl HRD.out ⟨wd.heap.size, 0, none⟩ 1 1 [.string a, .string b] rfl rfl HNW.out (fun u hu => by simp at hu; rcases hu with rfl | rfl <;> rfl) (by decide) (by unfold maxLen; omega) (by omega) HS8.out (wd.heap.size + 1) (by simp) ?_
      intro g9 cap9 w9 hown9 hgrow9 hat9 hlt9
      have hb9 := below_row (bto HBD.out ((Below.refl _ _).alloc (Nat.le_refl _) _)) hgrow9 (fun r e => (own_base HRD.out e).1)
      refine hK _ _ ?_
      refine wpAnyM_ready (rs := [15]) (by kernel_rfl) (by simp) (hb9) ?_
      refine AllReadyM.cons rfl (fun K' hK => ?_) (AllReadyM.nil)
      rw [if_pos (by kernel_rfl)]
      go_simp
      refine hK _ _ ?_
      refine wpAnyM_done (by kernel_rfl) (by kernel_rfl) ?_ _
      have HO9 : Hid (w9.ownsRow w1.heap.size 87 2 (.slice (some ⟨g9, 0, none⟩) (k + 1) cap9) (k + 1) ((rawP o (k + 1)).flatMap encP)) := hide (by rw [rawP_succ, List.flatMap_append, HSK.out]; exact hown9)
      have HB9 := hide hb9
      clear hown9 hgrow9 hat9 hlt9 hb9
      go_simp
      go_wp2_with fail
      refine ⟨⟨k + 1, _, _, by omega, by go_num, rfl, HO9, HB9⟩, ?_⟩
      simp [intOf]; omega
    · have hke : k + 1 = o.refs.length := by omega
      have hk1 : ((k : Nat) : Int) + 1 = (o.refs.length : Nat) := by omega
      have hk2 : ¬ ((o.refs.length : Nat) : Int) < (o.refs.length : Nat) := by omega
      obtain ⟨N, hN⟩ : ∃ N, k = N := ⟨_, rfl⟩
      subst hN
      have HSN2 : Hid (sidesN o = k) := hide (by rw [HSN.out]; omega)
      have HRO : Hid (wr.ownsRow w1.heap.size 87 2 (.slice Ao k co) k ((mixP o 0).flatMap encP)) := hide (by rw [mixP_zero, HSN2.out]; exact hro.out)
      have HBR := hide hbr.out
      have HN1 : Hid (k ≤ 1000) := hide (by omega)
      clear hro hx
      go_wp2_with fail
      go_loopw [5] (fun i wr => ∃ m : Nat, m ≤ k ∧ i = .int .i64 m ∧ Hid (wr.ownsRow w1.heap.size 87 2 (.slice Ao k co) k ((mixP o m).flatMap encP)) ∧ Hid (Below w1.heap.size w1 wr)) (fun i _ => k - (intOf i).toNat)
      case atStart => exact ⟨0, Nat.zero_le _, rfl, HRO, HBR⟩
      case round =>
        clear HRO HBR
        obtain ⟨m, hm, rfl, hro, hbr⟩ := hrel
        have hn1 := HN1.out
        by_cases hlt : m < k
        · have HS := hide hlt
          obtain ⟨g, cc, hv⟩ := row_at2 hro.out (by omega)
          rw [Value.slice.injEq] at hv
          obtain ⟨rfl, _, rfl⟩ := hv
          obtain ⟨⟨a, b⟩, hab⟩ : ∃ p, sideAt o m = p := ⟨_, rfl⟩
          have HSK := hide hab
          have hmg := mixP_get o (k := m) (by rw [HSN2.out]; exact hlt)
          rw [hab] at hmg
          obtain ⟨f0, f1⟩ := flatP_get _ hmg
          clear hab hmg
          have k0 : (0 : Int) ≤ (m : Nat) := by omega
          have k1 : ((m : Nat) : Int) < (k : Nat) := by omega
          go_upto_region 13 with (fail)
          refine wp_region_anyM (fun W => W = wr.drew) 26 hmx ?_
          have HRD := hide (own_below hro.out (below_drew wr))
          have HBD := hide (bto hbr.out (below_drew wr))
          clear hro hbr
          generalize wr.drew = wd at *
          have e0 := own_cell HRD.out _ _ f0
          have e1 := own_cell HRD.out _ _ f1
          have e2 := own_frz HRD.out (m * 2)
          have e3 := own_frz HRD.out (m * 2 + 1)
          clear f0 f1
          simp only [List.size_toArray, List.length_cons, List.length_nil, Nat.reduceAdd]
          refine wpAnyM_take (i := 0) (v := .slice (some ⟨g, 0, none⟩) k co) rfl (by kernel_rfl) (by kernel_rfl) (by kernel_rfl) (by kernel_rfl) (fun _ _ _ h => h) (.inl ⟨by kernel_rfl, fun w hm => by go_simp⟩) ?_
          refine wpAnyM_take (i := 1) (v := .int .i64 m) rfl (by kernel_rfl) (by kernel_rfl) (by kernel_rfl) (by kernel_rfl) (fun _ _ _ h => h) (.inl ⟨by kernel_rfl, fun w hm => by go_simp⟩) ?_
          refine wpAnyM_take (i := 2) (v := .slice (some ⟨g, 0, none⟩) k co) rfl (by kernel_rfl) (by kernel_rfl) (by kernel_rfl) (by kernel_rfl) (fun _ _ _ h => h) (.inl ⟨by kernel_rfl, fun w hm => by go_simp⟩) ?_
          refine wpAnyM_take (i := 3) (v := .int .i64 m) rfl (by kernel_rfl) (by kernel_rfl) (by kernel_rfl) (by kernel_rfl) (fun _ _ _ h => h) (.inl ⟨by kernel_rfl, fun w hm => by go_simp⟩) ?_
          refine wpAnyM_take (i := 4) (v := .pointer (some ⟨g, m * 2, none⟩)) rfl (by kernel_rfl) (by kernel_rfl) (by kernel_rfl) (by kernel_rfl) (fun _ _ _ h => h) (.inl ⟨by kernel_rfl, fun w hm => by go_simp⟩) ?_
          refine wpAnyM_take (i := 5) (v := .pointer (some ⟨g, m * 2, none⟩)) rfl (by kernel_rfl) (by kernel_rfl) (by kernel_rfl) (by kernel_rfl) (fun _ _ _ h => h) (.inl ⟨by kernel_rfl, fun w hm => by go_simp⟩) ?_
          refine wpAnyM_take (i := 6) (v := .string a) rfl (by kernel_rfl) (by kernel_rfl) (by kernel_rfl) (by kernel_rfl) (fun _ _ _ h => h) (.inl ⟨by kernel_rfl, fun w hm => by subst hm; go_simp⟩) ?_
          refine wpAnyM_take (i := 7) (v := .slice (some ⟨g, 0, none⟩) k co) rfl (by kernel_rfl) (by kernel_rfl) (by kernel_rfl) (by kernel_rfl) (fun _ _ _ h => h) (.inl ⟨by kernel_rfl, fun w hm => by go_simp⟩) ?_
          refine wpAnyM_take (i := 8) (v := .int .i64 m) rfl (by kernel_rfl) (by kernel_rfl) (by kernel_rfl) (by kernel_rfl) (fun _ _ _ h => h) (.inl ⟨by kernel_rfl, fun w hm => by go_simp⟩) ?_
          refine wpAnyM_take (i := 9) (v := .pointer (some ⟨g, m * 2, none⟩)) rfl (by kernel_rfl) (by kernel_rfl) (by kernel_rfl) (by kernel_rfl) (fun _ _ _ h => h) (.inl ⟨by kernel_rfl, fun w hm => by go_simp⟩) ?_
          refine wpAnyM_take (i := 10) (v := .pointer (some ⟨g, m * 2 + 1, none⟩)) rfl (by kernel_rfl) (by kernel_rfl) (by kernel_rfl) (by kernel_rfl) (fun _ _ _ h => h) (.inl ⟨by kernel_rfl, fun w hm => by go_simp⟩) ?_
          refine wpAnyM_take (i := 11) (v := .string b) rfl (by kernel_rfl) (by kernel_rfl) (by kernel_rfl) (by kernel_rfl) (fun _ _ _ h => h) (.inl ⟨by kernel_rfl, fun w hm => by subst hm; go_simp⟩) ?_
          refine wpAnyM_take (i := 12) (v := .string (minS a b)) rfl (by kernel_rfl) (by kernel_rfl) (by kernel_rfl) (by kernel_rfl) (fun _ _ _ h => h) (.inl ⟨by kernel_rfl, fun w hm => by go_simp⟩) ?_
          refine wpAnyM_take (i := 13) (v := .slice (some ⟨g, 0, none⟩) k co) rfl (by kernel_rfl) (by kernel_rfl) (by kernel_rfl) (by kernel_rfl) (fun _ _ _ h => h) (.inl ⟨by kernel_rfl, fun w hm => by go_simp⟩) ?_
          refine wpAnyM_take (i := 14) (v := .int .i64 m) rfl (by kernel_rfl) (by kernel_rfl) (by kernel_rfl) (by kernel_rfl) (fun _ _ _ h => h) (.inl ⟨by kernel_rfl, fun w hm => by go_simp⟩) ?_
          refine wpAnyM_take (i := 15) (v := .pointer (some ⟨g, m * 2, none⟩)) rfl (by kernel_rfl) (by kernel_rfl) (by kernel_rfl) (by kernel_rfl) (fun _ _ _ h => h) (.inl ⟨by kernel_rfl, fun w hm => by go_simp⟩) ?_
          refine wpAnyM_take (i := 16) (v := .pointer (some ⟨g, m * 2, none⟩)) rfl (by kernel_rfl) (by kernel_rfl) (by kernel_rfl) (by kernel_rfl) (fun _ _ _ h => h) (.inl ⟨by kernel_rfl, fun w hm => by go_simp⟩) ?_
          refine wpAnyM_take (i := 17) (v := .string a) rfl (by kernel_rfl) (by kernel_rfl) (by kernel_rfl) (by kernel_rfl) (fun _ _ _ h => h) (.inl ⟨by kernel_rfl, fun w hm => by subst hm; go_simp⟩) ?_
          refine wpAnyM_take (i := 18) (v := .slice (some ⟨g, 0, none⟩) k co) rfl (by kernel_rfl) (by kernel_rfl) (by kernel_rfl) (by kernel_rfl) (fun _ _ _ h => h) (.inl ⟨by kernel_rfl, fun w hm => by go_simp⟩) ?_
          refine wpAnyM_take (i := 19) (v := .int .i64 m) rfl (by kernel_rfl) (by kernel_rfl) (by kernel_rfl) (by kernel_rfl) (fun _ _ _ h => h) (.inl ⟨by kernel_rfl, fun w hm => by go_simp⟩) ?_
          refine wpAnyM_take (i := 20) (v := .pointer (some ⟨g, m * 2, none⟩)) rfl (by kernel_rfl) (by kernel_rfl) (by kernel_rfl) (by kernel_rfl) (fun _ _ _ h => h) (.inl ⟨by kernel_rfl, fun w hm => by go_simp⟩) ?_
          refine wpAnyM_take (i := 21) (v := .pointer (some ⟨g, m * 2 + 1, none⟩)) rfl (by kernel_rfl) (by kernel_rfl) (by kernel_rfl) (by kernel_rfl) (fun _ _ _ h => h) (.inl ⟨by kernel_rfl, fun w hm => by go_simp⟩) ?_
          refine wpAnyM_take (i := 22) (v := .string b) rfl (by kernel_rfl) (by kernel_rfl) (by kernel_rfl) (by kernel_rfl) (fun _ _ _ h => h) (.inl ⟨by kernel_rfl, fun w hm => by subst hm; go_simp⟩) ?_
          refine wpAnyM_take (i := 23) (v := .string (maxS a b)) rfl (by kernel_rfl) (by kernel_rfl) (by kernel_rfl) (by kernel_rfl) (fun _ _ _ h => h) (.inl ⟨by kernel_rfl, fun w hm => by go_simp⟩) ?_
          refine wpAnyM_take (i := 24) (v := .agg #[.string (minS a b), .string (maxS a b)]) rfl (by kernel_rfl) (by kernel_rfl) (by kernel_rfl) (by kernel_rfl) (fun _ _ _ h => h) (.inl ⟨by kernel_rfl, fun w hm => by go_simp⟩) ?_
          refine wpAnyM_take (i := 25) (v := .pointer (some ⟨g, m * 2, none⟩)) rfl (by kernel_rfl) (by kernel_rfl) (by kernel_rfl) (by kernel_rfl) (fun _ _ _ h => h) (.inl ⟨by kernel_rfl, fun w hm => by go_simp⟩) ?_
          refine wpAnyM_ready (rs := [26]) (by kernel_rfl) (by simp) (rfl) ?_
          refine AllReadyM.cons rfl (fun K' hK => ?_) (AllReadyM.nil)
          rw [if_pos (by kernel_rfl)]
          go_simp
          refine hK _ _ ?_
          refine wpAnyM_done (by kernel_rfl) (by kernel_rfl) ?_ _
          have HO2 := own_put (own_put HRD.out (m * 2) (.string (minS a b))) (m * 2 + 1) (.string (maxS a b))
          have HG2 := gby_trans (own_put_grown wd g (m * 2) (.string (minS a b))) (own_put_grown (wd.setCell ⟨g, m * 2, none⟩ (.string (minS a b))) g (m * 2 + 1) (.string (maxS a b)))
          have HB2 := hide (below_row HBD.out HG2 (fun r e => by rw [← Option.some.inj e]; exact (own_base HRD.out (b := g) rfl).1))
          rw [flatP_set (mixP o m) (by rw [mixP_len, HSN2.out]; exact HS.out) (minS a b, maxS a b)] at HO2
          have HO9 : Hid (((wd.setCell ⟨g, m * 2, none⟩ (.string (minS a b))).setCell ⟨g, m * 2 + 1, none⟩ (.string (maxS a b))).ownsRow w1.heap.size 87 2 (.slice (some ⟨g, 0, none⟩) k co) k ((mixP o (m + 1)).flatMap encP)) := hide (by rw [← mixP_set o (by rw [HSN2.out]; exact HS.out), HSK.out]; exact HO2)
          clear HO2 HG2 HRD HBD
          go_simp
          go_wp2_with fail
          refine ⟨⟨m + 1, HS.out, by go_num, HO9, HB2⟩, ?_⟩
          have := HS.out
          simp [intOf]; omega
        · obtain rfl : m = k := by omega
          have k1 : ¬ ((m : Nat) : Int) < (m : Nat) := by omega
          have HMA : Hid (mixP o m = sidesO o) := hide (by rw [← HSN2.out]; exact mixP_all o)
          have HSL : Hid ((sidesO o).length = m) := hide (by rw [← HMA.out, mixP_len]; exact HSN2.out)
          go_wp2_with fail
          go_ret
          exact ⟨_, rfl, by rw [HSL.out, ← HMA.out]; exact own_lower hro.out HB1.out.size, bto HB1.out hbr.out⟩
set_option maxRecDepth 100000 in
set_option maxHeartbeats 8000000 in
/-- The sides of an object of kind 3. -/
theorem sides3_any (o : Ob) (rv tv : Value) (w : World) (hk : o.kind = 3) (hr : StS w rv o.refs) (hl1 : 1 ≤ o.refs.length) (hl : o.refs.length ≤ 1000) :
    Calls Tryz.prog 47 #[.agg (obV o rv tv)] w fun e w' => ∃ v, e = .returned v ∧ w'.ownsRow w.heap.size 87 2 v (sidesO o).length ((sidesO o).flatMap encP) ∧ Below w.heap.size w w' := by
  obtain ⟨j0, hj, hy0, hy1, hy2⟩ := info_parts3 info_key
  have HJ0 := hide hj
  have HY0 := hide hy0
  have HY1 := hide hy1
  have HY2 := hide hy2
  clear hj hy0 hy1 hy2
  have hmx : Tryz.prog.follows .mixedOrders = true := by kernel_rfl
  obtain ⟨A, c, rfl, hc, hs⟩ := hr
  obtain ⟨gr, og, rfl, hgr, hst⟩ := hs.resolve_left (fun e => by rw [e] at hl1; simp at hl1)
  have HSN : Hid (sidesN o = o.refs.length) := hide (by unfold sidesN; rw [hk]; rfl)
  have HSD : Hid (∀ k, k + 1 < o.refs.length → sideAt o k = (o.refs.getD k ⟨#[]⟩, o.refs.getD (k + 1) ⟨#[]⟩)) := hide (fun k h => by unfold sideAt; rw [Nat.mod_eq_of_lt h])
  have HSE : Hid (sideAt o (o.refs.length - 1) = (o.refs.getD (o.refs.length - 1) ⟨#[]⟩, o.refs.getD 0 ⟨#[]⟩)) := hide (by unfold sideAt; rw [Nat.sub_add_cancel hl1, Nat.mod_self])
  have HST := hide hst
  have HGR := hide hgr
  unfold obV
  rw [hk]
  obtain ⟨w1, hw1⟩ : ∃ w1, w.alloc (.cells #[.string o.id, .int .i64 3, .int .i64 o.x, .int .i64 o.y, .slice (some ⟨gr, og, none⟩) o.refs.length c, tv] 47) = w1 := ⟨_, rfl⟩
  have hb1 : Below w.heap.size w w1 := by rw [← hw1]; exact (Below.refl _ _).alloc (Nat.le_refl _) _
  have hx1 : w1.heap[w.heap.size]? = some (.cells #[.string o.id, .int .i64 3, .int .i64 o.x, .int .i64 o.y, .slice (some ⟨gr, og, none⟩) o.refs.length c, tv] 47 (0, 0)) := by rw [← hw1]; exact heap_alloc_new _ _
  obtain ⟨d0, d1, d2, d3, d4, d5⟩ := box6 hx1
  have HB1 := hide hb1
  have HX1 := hide hx1
  have HR0 : Hid (w1.ownsRow w1.heap.size 87 2 (.slice none 0 0) 0 ((rawP o 0).flatMap encP)) := hide (World.ownsRow_nil _ _ _ _)
  clear hb1 hx1 hst hgr hs hk
  go_enter Tryz.func47, Tryz.ntmps47
  go_wp2_with fail
  clear hw1
  go_loopw [3, 4] (fun vo i wr => ∃ (k : Nat) (Ao : Option Addr) (co : Nat), k + 1 ≤ o.refs.length ∧ i = .int .i64 k ∧ vo = .slice Ao k co ∧ Hid (wr.ownsRow w1.heap.size 87 2 (.slice Ao k co) k ((rawP o k).flatMap encP)) ∧ Hid (Below w1.heap.size w1 wr)) (fun _ i _ => o.refs.length - (intOf i).toNat)
  case atStart => exact ⟨0, none, 0, by omega, rfl, rfl, HR0, hide (Below.refl _ _)⟩
  case round =>
    clear HR0 d0 d1 d2 d3 d4 d5
    obtain ⟨k, Ao, co, hk, rfl, rfl, hro, hbr⟩ := hrel
    have hx := blkB hbr.out HX1.out
    obtain ⟨d0, d1, d2, d3, d4, d5⟩ := box6 hx
    by_cases hlt : k + 1 < o.refs.length
    · have k0 : (0 : Int) ≤ (k : Nat) := by omega
      have k1 : ((k : Nat) : Int) < (o.refs.length : Nat) := by omega
      have k2 : ((k : Nat) : Int) + 1 < (o.refs.length : Nat) := by omega
      have k3 : (0 : Int) ≤ ((k : Nat) : Int) + 1 := by omega
      obtain ⟨a, ha⟩ : ∃ a, o.refs[k]? = some a := ⟨_, List.getElem?_eq_getElem (by omega)⟩
      obtain ⟨b, hb⟩ : ∃ b, o.refs[k + 1]? = some b := ⟨_, List.getElem?_eq_getElem (by omega)⟩
      have HSK : Hid (sideAt o k = (a, b)) := hide (by rw [HSD.out k hlt, List.getD_eq_getElem?_getD, List.getD_eq_getElem?_getD, ha, hb]; rfl)
      go_upto_region 7 with (fail)
      have HM : Hid (∀ W, Below w1.heap.size w1 W → W.cell? ⟨w.heap.size, 4, none⟩ = some (.slice (some ⟨gr, og, none⟩) o.refs.length c) ∧ W.cell? ⟨gr, og + k, none⟩ = some (.string a) ∧ W.cell? ⟨gr, og + (k + 1), none⟩ = some (.string b)) := hide (fun W hW => ⟨(box6 (blkB hW HX1.out)).2.2.2.2.1, ((bto HB1.out hW).cell (p := ⟨gr, _, none⟩) HGR.out).trans (HST.out _ a ha), ((bto HB1.out hW).cell (p := ⟨gr, _, none⟩) HGR.out).trans (HST.out _ b hb)⟩)
      refine wp_region_anyM (fun W => Below w1.heap.size w1 W) 15 hmx ?_
      have HRD := hide (own_below hro.out (below_drew wr))
      have HBD := hide (bto hbr.out (below_drew wr))
      clear hro hbr hx d0 d1 d2 d3 d4 d5
      generalize wr.drew = wd at *
      have HS8 : Hid (w1.heap.size ≤ (wd.alloc (.cells #[.string a, .string b] 87)).heap.size) := hide (Nat.le_trans HBD.out.size (by simp))
      have HNW : Hid (∀ (j : Nat) (u : Value), [(Value.string a), (Value.string b)][j]? = some u → (wd.alloc (.cells #[.string a, .string b] 87)).cell? ((⟨wd.heap.size, 0, none⟩ : Addr).add j) = some u) := hide (fun j u hj => World.news_of_block (cs := #[.string a, .string b]) (t := 87) (fr := (0, 0)) (heap_alloc_new wd _) j u hj)
      have HRD2 := HRD
      replace HRD := hide (own_below HRD.out ((Below.refl _ _).alloc (Nat.le_refl _) (.cells #[.string a, .string b] 87)))
      simp only [List.size_toArray, List.length_cons, List.length_nil, Nat.reduceAdd]
      refine wpAnyM_take (i := 0) (v := .slice Ao k co) rfl (by kernel_rfl) (by kernel_rfl) (by kernel_rfl) (by kernel_rfl) (fun _ _ _ h => h) (.inl ⟨by kernel_rfl, fun w hm => rfl⟩) ?_
      refine wpAnyM_take (i := 1) (v := .pointer (some ⟨w.heap.size, 4, none⟩)) rfl (by kernel_rfl) (by kernel_rfl) (by kernel_rfl) (by kernel_rfl) (fun _ _ _ h => h) (.inl ⟨by kernel_rfl, fun w hm => by go_simp⟩) ?_
      refine wpAnyM_take (i := 2) (v := .slice (some ⟨gr, og, none⟩) o.refs.length c) rfl (by kernel_rfl) (by kernel_rfl) (by kernel_rfl) (by kernel_rfl) (fun _ _ _ h => h) (.inl ⟨by kernel_rfl, fun w hm => by obtain ⟨m0, m1, m2⟩ := HM.out w hm; clear m1 m2; go_simp⟩) ?_
      refine wpAnyM_take (i := 3) (v := .int .i64 k) rfl (by kernel_rfl) (by kernel_rfl) (by kernel_rfl) (by kernel_rfl) (fun _ _ _ h => h) (.inl ⟨by kernel_rfl, fun w hm => rfl⟩) ?_
      refine wpAnyM_take (i := 4) (v := .pointer (some ⟨gr, og + k, none⟩)) rfl (by kernel_rfl) (by kernel_rfl) (by kernel_rfl) (by kernel_rfl) (fun _ _ _ h => h) (.inl ⟨by kernel_rfl, fun w hm => by go_simp⟩) ?_
      refine wpAnyM_take (i := 5) (v := .string a) rfl (by kernel_rfl) (by kernel_rfl) (by kernel_rfl) (by kernel_rfl) (fun _ _ _ h => h) (.inl ⟨by kernel_rfl, fun w hm => by obtain ⟨m0, m1, m2⟩ := HM.out w hm; clear m0 m2; go_simp⟩) ?_
      refine wpAnyM_take (i := 6) (v := .pointer (some ⟨w.heap.size, 4, none⟩)) rfl (by kernel_rfl) (by kernel_rfl) (by kernel_rfl) (by kernel_rfl) (fun _ _ _ h => h) (.inl ⟨by kernel_rfl, fun w hm => by go_simp⟩) ?_
      refine wpAnyM_take (i := 7) (v := .slice (some ⟨gr, og, none⟩) o.refs.length c) rfl (by kernel_rfl) (by kernel_rfl) (by kernel_rfl) (by kernel_rfl) (fun _ _ _ h => h) (.inl ⟨by kernel_rfl, fun w hm => by obtain ⟨m0, m1, m2⟩ := HM.out w hm; clear m1 m2; go_simp⟩) ?_
      refine wpAnyM_take (i := 8) (v := .int .i64 k) rfl (by kernel_rfl) (by kernel_rfl) (by kernel_rfl) (by kernel_rfl) (fun _ _ _ h => h) (.inl ⟨by kernel_rfl, fun w hm => by go_simp⟩) ?_
      refine wpAnyM_take (i := 9) (v := .int .i64 (((k : Nat) : Int) + 1)) rfl (by kernel_rfl) (by kernel_rfl) (by kernel_rfl) (by kernel_rfl) (fun _ _ _ h => h) (.inl ⟨by kernel_rfl, fun w hm => by go_simp; exact IntWalk.i64_in _ (by omega)⟩) ?_
      refine wpAnyM_take (i := 10) (v := .pointer (some ⟨gr, og + (k + 1), none⟩)) rfl (by kernel_rfl) (by kernel_rfl) (by kernel_rfl) (by kernel_rfl) (fun _ _ _ h => h) (.inl ⟨by kernel_rfl, fun w hm => by go_simp⟩) ?_
      refine wpAnyM_take (i := 11) (v := .string b) rfl (by kernel_rfl) (by kernel_rfl) (by kernel_rfl) (by kernel_rfl) (fun _ _ _ h => h) (.inl ⟨by kernel_rfl, fun w hm => by obtain ⟨m0, m1, m2⟩ := HM.out w hm; clear m0 m1; go_simp⟩) ?_
      refine wpAnyM_take (i := 12) (v := .agg #[.string a, .string b]) rfl (by kernel_rfl) (by kernel_rfl) (by kernel_rfl) (by kernel_rfl) (fun _ _ _ h => h) (.inl ⟨by kernel_rfl, fun w hm => by go_simp⟩) ?_
      refine wpAnyM_ready (rs := [13]) (by kernel_rfl) (by simp) (HBD.out) ?_
      refine AllReadyM.cons rfl (fun K' hK => ?_) (AllReadyM.nil)
      rw [if_pos (by kernel_rfl)]
      go_simp
      refine hK _ _ ?_
      refine wpAnyM_ready (rs := [14]) (by kernel_rfl) (by simp) (bto HBD.out ((Below.refl _ _).alloc (Nat.le_refl _) _)) ?_
      refine AllReadyM.cons rfl (fun K' hK => ?_) (AllReadyM.nil)
      refine step_append_lies _ rfl (.tmp 22) (.tmp 35) 116 rfl w1.heap.size 87 j0 (.agg #[.string ⟨#[]⟩, .string ⟨#[]⟩]) 2 32 Tryz.underlying116 HJ0.out HY0.out HY1.out HY2.out rfl (by decide) (.slice Ao k co) k ((rawP o k).flatMap encP) rfl HRD.out ⟨wd.heap.size, 0, none⟩ 1 1 [.string a, .string b] rfl rfl HNW.out (fun u hu => by simp at hu; rcases hu with rfl | rfl <;> rfl) (by decide) (by unfold maxLen; omega) (by omega) HS8.out (wd.heap.size + 1) (by simp) ?_
      intro g9 cap9 w9 hown9 hgrow9 hat9 hlt9
      have hb9 := below_row (bto HBD.out ((Below.refl _ _).alloc (Nat.le_refl _) _)) hgrow9 (fun r e => (own_base HRD.out e).1)
      refine hK _ _ ?_
      refine wpAnyM_ready (rs := [15]) (by kernel_rfl) (by simp) (hb9) ?_
      refine AllReadyM.cons rfl (fun K' hK => ?_) (AllReadyM.nil)
      rw [if_pos (by kernel_rfl)]
      go_simp
      refine hK _ _ ?_
      refine wpAnyM_done (by kernel_rfl) (by kernel_rfl) ?_ _
      have HO9 : Hid (w9.ownsRow w1.heap.size 87 2 (.slice (some ⟨g9, 0, none⟩) (k + 1) cap9) (k + 1) ((rawP o (k + 1)).flatMap encP)) := hide (by rw [rawP_succ, List.flatMap_append, HSK.out]; exact hown9)
      have HB9 := hide hb9
      clear hown9 hgrow9 hat9 hlt9 hb9
      go_simp
      go_wp2_with fail
      refine ⟨⟨k + 1, _, _, by omega, by go_num, rfl, HO9, HB9⟩, ?_⟩
      simp [intOf]; omega
    · have hke : k + 1 = o.refs.length := by omega
      have hk1 : ((k : Nat) : Int) + 1 = (o.refs.length : Nat) := by omega
      have hk2 : ¬ ((o.refs.length : Nat) : Int) < (o.refs.length : Nat) := by omega
      have k0 : (0 : Int) ≤ (k : Nat) := by omega
      have k1 : ((k : Nat) : Int) < (o.refs.length : Nat) := by omega
      have k4 : (0 : Int) < (o.refs.length : Nat) := by omega
      have HNE : Hid (o.refs ≠ []) := hide (fun e => by rw [e] at hke; simp at hke)
      obtain ⟨a, ha⟩ : ∃ a, o.refs[k]? = some a := ⟨_, List.getElem?_eq_getElem (by omega)⟩
      obtain ⟨b, hb⟩ : ∃ b, o.refs[0]? = some b := ⟨_, List.getElem?_eq_getElem (by omega)⟩
      have HSK : Hid (sideAt o k = (a, b)) := hide (by
        have h1 : k = o.refs.length - 1 := by omega
        have := HSE.out
        rw [← h1] at this
        rw [this, List.getD_eq_getElem?_getD, List.getD_eq_getElem?_getD, ha, hb]
        rfl)
      go_upto_region 9 with (fail)
      have HM : Hid (∀ W, Below w1.heap.size w1 W → W.cell? ⟨w.heap.size, 4, none⟩ = some (.slice (some ⟨gr, og, none⟩) o.refs.length c) ∧ W.cell? ⟨gr, og + k, none⟩ = some (.string a) ∧ W.cell? ⟨gr, og, none⟩ = some (.string b)) := hide (fun W hW => ⟨(box6 (blkB hW HX1.out)).2.2.2.2.1, ((bto HB1.out hW).cell (p := ⟨gr, _, none⟩) HGR.out).trans (HST.out _ a ha), ((bto HB1.out hW).cell (p := ⟨gr, _, none⟩) HGR.out).trans (HST.out _ b hb)⟩)
      refine wp_region_anyM (fun W => Below w1.heap.size w1 W) 16 hmx ?_
      have HRD := hide (own_below hro.out (below_drew wr))
      have HBD := hide (bto hbr.out (below_drew wr))
      clear hro hbr hx d0 d1 d2 d3 d4 d5
      generalize wr.drew = wd at *
      have HS8 : Hid (w1.heap.size ≤ (wd.alloc (.cells #[.string a, .string b] 87)).heap.size) := hide (Nat.le_trans HBD.out.size (by simp))
      have HNW : Hid (∀ (j : Nat) (u : Value), [(Value.string a), (Value.string b)][j]? = some u → (wd.alloc (.cells #[.string a, .string b] 87)).cell? ((⟨wd.heap.size, 0, none⟩ : Addr).add j) = some u) := hide (fun j u hj => World.news_of_block (cs := #[.string a, .string b]) (t := 87) (fr := (0, 0)) (heap_alloc_new wd _) j u hj)
      have HRD2 := HRD
      replace HRD := hide (own_below HRD.out ((Below.refl _ _).alloc (Nat.le_refl _) (.cells #[.string a, .string b] 87)))
      simp only [List.size_toArray, List.length_cons, List.length_nil, Nat.reduceAdd]
      refine wpAnyM_take (i := 0) (v := .slice Ao k co) rfl (by kernel_rfl) (by kernel_rfl) (by kernel_rfl) (by kernel_rfl) (fun _ _ _ h => h) (.inl ⟨by kernel_rfl, fun w hm => by go_simp⟩) ?_
      refine wpAnyM_take (i := 1) (v := .pointer (some ⟨w.heap.size, 4, none⟩)) rfl (by kernel_rfl) (by kernel_rfl) (by kernel_rfl) (by kernel_rfl) (fun _ _ _ h => h) (.inl ⟨by kernel_rfl, fun w hm => by go_simp⟩) ?_
      refine wpAnyM_take (i := 2) (v := .slice (some ⟨gr, og, none⟩) o.refs.length c) rfl (by kernel_rfl) (by kernel_rfl) (by kernel_rfl) (by kernel_rfl) (fun _ _ _ h => h) (.inl ⟨by kernel_rfl, fun w hm => by obtain ⟨m0, m1, m2⟩ := HM.out w hm; clear m1 m2; go_simp⟩) ?_
      refine wpAnyM_take (i := 3) (v := .pointer (some ⟨w.heap.size, 4, none⟩)) rfl (by kernel_rfl) (by kernel_rfl) (by kernel_rfl) (by kernel_rfl) (fun _ _ _ h => h) (.inl ⟨by kernel_rfl, fun w hm => by go_simp⟩) ?_
      refine wpAnyM_take (i := 4) (v := .slice (some ⟨gr, og, none⟩) o.refs.length c) rfl (by kernel_rfl) (by kernel_rfl) (by kernel_rfl) (by kernel_rfl) (fun _ _ _ h => h) (.inl ⟨by kernel_rfl, fun w hm => by obtain ⟨m0, m1, m2⟩ := HM.out w hm; clear m1 m2; go_simp⟩) ?_
      refine wpAnyM_take (i := 5) (v := .int .i64 o.refs.length) rfl (by kernel_rfl) (by kernel_rfl) (by kernel_rfl) (by kernel_rfl) (fun _ _ _ h => h) (.inl ⟨by kernel_rfl, fun w hm => by go_simp⟩) ?_
      refine wpAnyM_take (i := 6) (v := .int .i64 k) rfl (by kernel_rfl) (by kernel_rfl) (by kernel_rfl) (by kernel_rfl) (fun _ _ _ h => h) (.inl ⟨by kernel_rfl, fun w hm => by go_simp; rw [IntWalk.i64_in _ (by omega)]; omega⟩) ?_
      refine wpAnyM_take (i := 7) (v := .pointer (some ⟨gr, og + k, none⟩)) rfl (by kernel_rfl) (by kernel_rfl) (by kernel_rfl) (by kernel_rfl) (fun _ _ _ h => h) (.inl ⟨by kernel_rfl, fun w hm => by go_simp⟩) ?_
      refine wpAnyM_take (i := 8) (v := .string a) rfl (by kernel_rfl) (by kernel_rfl) (by kernel_rfl) (by kernel_rfl) (fun _ _ _ h => h) (.inl ⟨by kernel_rfl, fun w hm => by obtain ⟨m0, m1, m2⟩ := HM.out w hm; clear m0 m2; go_simp⟩) ?_
      refine wpAnyM_take (i := 9) (v := .pointer (some ⟨w.heap.size, 4, none⟩)) rfl (by kernel_rfl) (by kernel_rfl) (by kernel_rfl) (by kernel_rfl) (fun _ _ _ h => h) (.inl ⟨by kernel_rfl, fun w hm => by go_simp⟩) ?_
      refine wpAnyM_take (i := 10) (v := .slice (some ⟨gr, og, none⟩) o.refs.length c) rfl (by kernel_rfl) (by kernel_rfl) (by kernel_rfl) (by kernel_rfl) (fun _ _ _ h => h) (.inl ⟨by kernel_rfl, fun w hm => by obtain ⟨m0, m1, m2⟩ := HM.out w hm; clear m1 m2; go_simp⟩) ?_
      refine wpAnyM_take (i := 11) (v := .pointer (some ⟨gr, og, none⟩)) rfl (by kernel_rfl) (by kernel_rfl) (by kernel_rfl) (by kernel_rfl) (fun _ _ _ h => h) (.inl ⟨by kernel_rfl, fun w hm => by go_simp; exact fun h => absurd h HNE.out⟩) ?_
      refine wpAnyM_take (i := 12) (v := .string b) rfl (by kernel_rfl) (by kernel_rfl) (by kernel_rfl) (by kernel_rfl) (fun _ _ _ h => h) (.inl ⟨by kernel_rfl, fun w hm => by obtain ⟨m0, m1, m2⟩ := HM.out w hm; clear m0 m1; go_simp⟩) ?_
      refine wpAnyM_take (i := 13) (v := .agg #[.string a, .string b]) rfl (by kernel_rfl) (by kernel_rfl) (by kernel_rfl) (by kernel_rfl) (fun _ _ _ h => h) (.inl ⟨by kernel_rfl, fun w hm => by go_simp⟩) ?_
      refine wpAnyM_ready (rs := [14]) (by kernel_rfl) (by simp) (HBD.out) ?_
      refine AllReadyM.cons rfl (fun K' hK => ?_) (AllReadyM.nil)
      rw [if_pos (by kernel_rfl)]
      go_simp
      refine hK _ _ ?_
      refine wpAnyM_ready (rs := [15]) (by kernel_rfl) (by simp) (bto HBD.out ((Below.refl _ _).alloc (Nat.le_refl _) _)) ?_
      refine AllReadyM.cons rfl (fun K' hK => ?_) (AllReadyM.nil)
      refine step_append_lies _ rfl (.tmp 40) (.tmp 54) 116 rfl w1.heap.size 87 j0 (.agg #[.string ⟨#[]⟩, .string ⟨#[]⟩]) 2 32 Tryz.underlying116 HJ0.out HY0.out HY1.out HY2.out rfl (by decide) (.slice Ao k co) k ((rawP o k).flatMap encP) rfl HRD.out ⟨wd.heap.size, 0, none⟩ 1 1 [.string a, .string b] rfl rfl HNW.out (fun u hu => by simp at hu; rcases hu with rfl | rfl <;> rfl) (by decide) (by unfold maxLen; omega) (by omega) HS8.out (wd.heap.size + 1) (by simp) ?_
      intro g9 cap9 w9 hown9 hgrow9 hat9 hlt9
      have hb9 := below_row (bto HBD.out ((Below.refl _ _).alloc (Nat.le_refl _) _)) hgrow9 (fun r e => (own_base HRD.out e).1)
      refine hK _ _ ?_
      refine wpAnyM_ready (rs := [16]) (by kernel_rfl) (by simp) (hb9) ?_
      refine AllReadyM.cons rfl (fun K' hK => ?_) (AllReadyM.nil)
      rw [if_pos (by kernel_rfl)]
      go_simp
      refine hK _ _ ?_
      refine wpAnyM_done (by kernel_rfl) (by kernel_rfl) ?_ _
      obtain ⟨N, hN⟩ : ∃ N, o.refs.length = N := ⟨_, rfl⟩
      rw [hke, hN] at hown9
      have HSN2 : Hid (sidesN o = N) := hide (by rw [HSN.out]; exact hN)
      have HRO : Hid (w9.ownsRow w1.heap.size 87 2 (.slice (some ⟨g9, 0, none⟩) N cap9) N ((mixP o 0).flatMap encP)) := hide (by rw [mixP_zero, HSN2.out, ← hN, ← hke, rawP_succ, List.flatMap_append, HSK.out, hke, hN]; exact hown9)
      have HBR := hide hb9
      have HN1 : Hid (N ≤ 1000) := hide (by omega)
      clear hown9 hgrow9 hat9 hlt9 hb9 HRD HBD HRD2
      go_simp
      clear hN
      go_wp2_with fail
      go_loopw [5] (fun i wr => ∃ m : Nat, m ≤ N ∧ i = .int .i64 m ∧ Hid (wr.ownsRow w1.heap.size 87 2 (.slice (some ⟨g9, 0, none⟩) N cap9) N ((mixP o m).flatMap encP)) ∧ Hid (Below w1.heap.size w1 wr)) (fun i _ => N - (intOf i).toNat)
      case atStart => exact ⟨0, Nat.zero_le _, rfl, HRO, HBR⟩
      case round =>
        clear HRO HBR
        obtain ⟨m, hm, rfl, hro, hbr⟩ := hrel
        have hn1 := HN1.out
        by_cases hlt : m < N
        · have HS := hide hlt
          obtain ⟨⟨a, b⟩, hab⟩ : ∃ p, sideAt o m = p := ⟨_, rfl⟩
          have HSK := hide hab
          have hmg := mixP_get o (k := m) (by rw [HSN2.out]; exact hlt)
          rw [hab] at hmg
          obtain ⟨f0, f1⟩ := flatP_get _ hmg
          clear hab hmg
          have k0 : (0 : Int) ≤ (m : Nat) := by omega
          have k1 : ((m : Nat) : Int) < (N : Nat) := by omega
          go_upto_region 13 with (fail)
          refine wp_region_anyM (fun W => W = wr.drew) 26 hmx ?_
          have HRD := hide (own_below hro.out (below_drew wr))
          have HBD := hide (bto hbr.out (below_drew wr))
          clear hro hbr
          generalize wr.drew = wd at *
          have e0 := own_cell HRD.out _ _ f0
          have e1 := own_cell HRD.out _ _ f1
          have e2 := own_frz HRD.out (m * 2)
          have e3 := own_frz HRD.out (m * 2 + 1)
          clear f0 f1
          simp only [List.size_toArray, List.length_cons, List.length_nil, Nat.reduceAdd]
          refine wpAnyM_take (i := 0) (v := .slice (some ⟨g9, 0, none⟩) N cap9) rfl (by kernel_rfl) (by kernel_rfl) (by kernel_rfl) (by kernel_rfl) (fun _ _ _ h => h) (.inl ⟨by kernel_rfl, fun w hm => by go_simp⟩) ?_
          refine wpAnyM_take (i := 1) (v := .int .i64 m) rfl (by kernel_rfl) (by kernel_rfl) (by kernel_rfl) (by kernel_rfl) (fun _ _ _ h => h) (.inl ⟨by kernel_rfl, fun w hm => by go_simp⟩) ?_
          refine wpAnyM_take (i := 2) (v := .slice (some ⟨g9, 0, none⟩) N cap9) rfl (by kernel_rfl) (by kernel_rfl) (by kernel_rfl) (by kernel_rfl) (fun _ _ _ h => h) (.inl ⟨by kernel_rfl, fun w hm => by go_simp⟩) ?_
          refine wpAnyM_take (i := 3) (v := .int .i64 m) rfl (by kernel_rfl) (by kernel_rfl) (by kernel_rfl) (by kernel_rfl) (fun _ _ _ h => h) (.inl ⟨by kernel_rfl, fun w hm => by go_simp⟩) ?_
          refine wpAnyM_take (i := 4) (v := .pointer (some ⟨g9, m * 2, none⟩)) rfl (by kernel_rfl) (by kernel_rfl) (by kernel_rfl) (by kernel_rfl) (fun _ _ _ h => h) (.inl ⟨by kernel_rfl, fun w hm => by go_simp⟩) ?_
          refine wpAnyM_take (i := 5) (v := .pointer (some ⟨g9, m * 2, none⟩)) rfl (by kernel_rfl) (by kernel_rfl) (by kernel_rfl) (by kernel_rfl) (fun _ _ _ h => h) (.inl ⟨by kernel_rfl, fun w hm => by go_simp⟩) ?_
          refine wpAnyM_take (i := 6) (v := .string a) rfl (by kernel_rfl) (by kernel_rfl) (by kernel_rfl) (by kernel_rfl) (fun _ _ _ h => h) (.inl ⟨by kernel_rfl, fun w hm => by subst hm; go_simp⟩) ?_
          refine wpAnyM_take (i := 7) (v := .slice (some ⟨g9, 0, none⟩) N cap9) rfl (by kernel_rfl) (by kernel_rfl) (by kernel_rfl) (by kernel_rfl) (fun _ _ _ h => h) (.inl ⟨by kernel_rfl, fun w hm => by go_simp⟩) ?_
          refine wpAnyM_take (i := 8) (v := .int .i64 m) rfl (by kernel_rfl) (by kernel_rfl) (by kernel_rfl) (by kernel_rfl) (fun _ _ _ h => h) (.inl ⟨by kernel_rfl, fun w hm => by go_simp⟩) ?_
          refine wpAnyM_take (i := 9) (v := .pointer (some ⟨g9, m * 2, none⟩)) rfl (by kernel_rfl) (by kernel_rfl) (by kernel_rfl) (by kernel_rfl) (fun _ _ _ h => h) (.inl ⟨by kernel_rfl, fun w hm => by go_simp⟩) ?_
          refine wpAnyM_take (i := 10) (v := .pointer (some ⟨g9, m * 2 + 1, none⟩)) rfl (by kernel_rfl) (by kernel_rfl) (by kernel_rfl) (by kernel_rfl) (fun _ _ _ h => h) (.inl ⟨by kernel_rfl, fun w hm => by go_simp⟩) ?_
          refine wpAnyM_take (i := 11) (v := .string b) rfl (by kernel_rfl) (by kernel_rfl) (by kernel_rfl) (by kernel_rfl) (fun _ _ _ h => h) (.inl ⟨by kernel_rfl, fun w hm => by subst hm; go_simp⟩) ?_
          refine wpAnyM_take (i := 12) (v := .string (minS a b)) rfl (by kernel_rfl) (by kernel_rfl) (by kernel_rfl) (by kernel_rfl) (fun _ _ _ h => h) (.inl ⟨by kernel_rfl, fun w hm => by go_simp⟩) ?_
          refine wpAnyM_take (i := 13) (v := .slice (some ⟨g9, 0, none⟩) N cap9) rfl (by kernel_rfl) (by kernel_rfl) (by kernel_rfl) (by kernel_rfl) (fun _ _ _ h => h) (.inl ⟨by kernel_rfl, fun w hm => by go_simp⟩) ?_
          refine wpAnyM_take (i := 14) (v := .int .i64 m) rfl (by kernel_rfl) (by kernel_rfl) (by kernel_rfl) (by kernel_rfl) (fun _ _ _ h => h) (.inl ⟨by kernel_rfl, fun w hm => by go_simp⟩) ?_
          refine wpAnyM_take (i := 15) (v := .pointer (some ⟨g9, m * 2, none⟩)) rfl (by kernel_rfl) (by kernel_rfl) (by kernel_rfl) (by kernel_rfl) (fun _ _ _ h => h) (.inl ⟨by kernel_rfl, fun w hm => by go_simp⟩) ?_
          refine wpAnyM_take (i := 16) (v := .pointer (some ⟨g9, m * 2, none⟩)) rfl (by kernel_rfl) (by kernel_rfl) (by kernel_rfl) (by kernel_rfl) (fun _ _ _ h => h) (.inl ⟨by kernel_rfl, fun w hm => by go_simp⟩) ?_
          refine wpAnyM_take (i := 17) (v := .string a) rfl (by kernel_rfl) (by kernel_rfl) (by kernel_rfl) (by kernel_rfl) (fun _ _ _ h => h) (.inl ⟨by kernel_rfl, fun w hm => by subst hm; go_simp⟩) ?_
          refine wpAnyM_take (i := 18) (v := .slice (some ⟨g9, 0, none⟩) N cap9) rfl (by kernel_rfl) (by kernel_rfl) (by kernel_rfl) (by kernel_rfl) (fun _ _ _ h => h) (.inl ⟨by kernel_rfl, fun w hm => by go_simp⟩) ?_
          refine wpAnyM_take (i := 19) (v := .int .i64 m) rfl (by kernel_rfl) (by kernel_rfl) (by kernel_rfl) (by kernel_rfl) (fun _ _ _ h => h) (.inl ⟨by kernel_rfl, fun w hm => by go_simp⟩) ?_
          refine wpAnyM_take (i := 20) (v := .pointer (some ⟨g9, m * 2, none⟩)) rfl (by kernel_rfl) (by kernel_rfl) (by kernel_rfl) (by kernel_rfl) (fun _ _ _ h => h) (.inl ⟨by kernel_rfl, fun w hm => by go_simp⟩) ?_
          refine wpAnyM_take (i := 21) (v := .pointer (some ⟨g9, m * 2 + 1, none⟩)) rfl (by kernel_rfl) (by kernel_rfl) (by kernel_rfl) (by kernel_rfl) (fun _ _ _ h => h) (.inl ⟨by kernel_rfl, fun w hm => by go_simp⟩) ?_
          refine wpAnyM_take (i := 22) (v := .string b) rfl (by kernel_rfl) (by kernel_rfl) (by kernel_rfl) (by kernel_rfl) (fun _ _ _ h => h) (.inl ⟨by kernel_rfl, fun w hm => by subst hm; go_simp⟩) ?_
          refine wpAnyM_take (i := 23) (v := .string (maxS a b)) rfl (by kernel_rfl) (by kernel_rfl) (by kernel_rfl) (by kernel_rfl) (fun _ _ _ h => h) (.inl ⟨by kernel_rfl, fun w hm => by go_simp⟩) ?_
          refine wpAnyM_take (i := 24) (v := .agg #[.string (minS a b), .string (maxS a b)]) rfl (by kernel_rfl) (by kernel_rfl) (by kernel_rfl) (by kernel_rfl) (fun _ _ _ h => h) (.inl ⟨by kernel_rfl, fun w hm => by go_simp⟩) ?_
          refine wpAnyM_take (i := 25) (v := .pointer (some ⟨g9, m * 2, none⟩)) rfl (by kernel_rfl) (by kernel_rfl) (by kernel_rfl) (by kernel_rfl) (fun _ _ _ h => h) (.inl ⟨by kernel_rfl, fun w hm => by go_simp⟩) ?_
          refine wpAnyM_ready (rs := [26]) (by kernel_rfl) (by simp) (rfl) ?_
          refine AllReadyM.cons rfl (fun K' hK => ?_) (AllReadyM.nil)
          rw [if_pos (by kernel_rfl)]
          go_simp
          refine hK _ _ ?_
          refine wpAnyM_done (by kernel_rfl) (by kernel_rfl) ?_ _
          have HO2 := own_put (own_put HRD.out (m * 2) (.string (minS a b))) (m * 2 + 1) (.string (maxS a b))
          have HG2 := gby_trans (own_put_grown wd g9 (m * 2) (.string (minS a b))) (own_put_grown (wd.setCell ⟨g9, m * 2, none⟩ (.string (minS a b))) g9 (m * 2 + 1) (.string (maxS a b)))
          have HB2 := hide (below_row HBD.out HG2 (fun r e => by rw [← Option.some.inj e]; exact (own_base HRD.out (b := g9) rfl).1))
          rw [flatP_set (mixP o m) (by rw [mixP_len, HSN2.out]; exact HS.out) (minS a b, maxS a b)] at HO2
          have HO9 : Hid (((wd.setCell ⟨g9, m * 2, none⟩ (.string (minS a b))).setCell ⟨g9, m * 2 + 1, none⟩ (.string (maxS a b))).ownsRow w1.heap.size 87 2 (.slice (some ⟨g9, 0, none⟩) N cap9) N ((mixP o (m + 1)).flatMap encP)) := hide (by rw [← mixP_set o (by rw [HSN2.out]; exact HS.out), HSK.out]; exact HO2)
          clear HO2 HG2 HRD HBD
          go_simp
          go_wp2_with fail
          refine ⟨⟨m + 1, HS.out, by go_num, HO9, HB2⟩, ?_⟩
          have := HS.out
          simp [intOf]; omega
        · obtain rfl : m = N := by omega
          have k1 : ¬ ((m : Nat) : Int) < (m : Nat) := by omega
          have HMA : Hid (mixP o m = sidesO o) := hide (by rw [← HSN2.out]; exact mixP_all o)
          have HSL : Hid ((sidesO o).length = m) := hide (by rw [← HMA.out, mixP_len]; exact HSN2.out)
          go_wp2_with fail
          go_ret
          exact ⟨_, rfl, by rw [HSL.out, ← HMA.out]; exact own_lower hro.out HB1.out.size, bto HB1.out hbr.out⟩
set_option maxRecDepth 100000 in
theorem sides0_any (o : Ob) (rv tv : Value) (w : World) (h2 : o.kind ≠ 2) (h3 : o.kind ≠ 3) :
    Calls Tryz.prog 47 #[.agg (obV o rv tv)] w fun e w' => ∃ v, e = .returned v ∧ w'.ownsRow w.heap.size 87 2 v (sidesO o).length ((sidesO o).flatMap encP) ∧ Below w.heap.size w w' := by
  have HSO : Hid (sidesO o = []) := hide (by unfold sidesO sidesN; rw [if_neg h3, if_neg h2]; rfl)
  unfold obV
  have e2 : (o.kind != 2) = true := by simpa using h2
  have e3 : (o.kind != 3) = true := by simpa using h3
  obtain ⟨d0, d1, d2, d3, d4, d5⟩ := box6 (heap_alloc_new w (.cells #[.string o.id, .int .i64 o.kind, .int .i64 o.x, .int .i64 o.y, rv, tv] 47))
  go_enter Tryz.func47, Tryz.ntmps47
  go_wp2_with fail
  go_ret
  exact ⟨_, rfl, by rw [HSO.out]; exact World.ownsRow_nil _ _ _ _, (Below.refl _ _).alloc (Nat.le_refl _) _⟩
theorem sides_any (o : Ob) (rv tv : Value) (w : World) (hr : StS w rv o.refs) (hl1 : o.kind = 2 ∨ o.kind = 3 → 1 ≤ o.refs.length) (hl : o.refs.length ≤ 1000) :
    Calls Tryz.prog 47 #[.agg (obV o rv tv)] w fun e w' => ∃ v, e = .returned v ∧ w'.ownsRow w.heap.size 87 2 v (sidesO o).length ((sidesO o).flatMap encP) ∧ Below w.heap.size w w' := by
  by_cases h2 : o.kind = 2
  · exact sides2_any o rv tv w h2 hr (hl1 (.inl h2)) hl
  · by_cases h3 : o.kind = 3
    · exact sides3_any o rv tv w h3 hr (hl1 (.inr h3)) hl
    · exact sides0_any o rv tv w h2 h3
end Go.Proofs.YtfkgjbdeicggaaaGreat
