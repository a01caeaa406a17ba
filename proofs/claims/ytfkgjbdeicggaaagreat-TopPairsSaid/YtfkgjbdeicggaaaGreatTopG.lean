/-
  border.of, walked; keys of maps that are pairs or points.
-/
import Derived.Test.YtfkgjbdeicggaaaGreatTopO
import Derived.Test.YtfkgjbdeicggaaaGreatTopF
import Derived.Test.YtfkgjbdeicggaaaGreatPlainAll
namespace Go.Proofs.YtfkgjbdeicggaaaGreat
open Go.RowKit Go.Proofs.PlLex Go.Proofs.PlNet Go.Proofs.PlMap Go.Proofs.PlGeom Go.Proofs.PlTop
attribute [local go_sem] Oper.semAt_some run_makeMap

theorem row_pair : (87 : Nat) < Tryz.prog.types.size := of_decide_eq_true (by kernel_rfl)
theorem law_pair : WideMaps.KeyLaw Tryz.prog 87 := deep_law_laid laid_out (m := 3) (by omega) row_pair (by kernel_rfl) (by kernel_rfl)
theorem row_point : (44 : Nat) < Tryz.prog.types.size := of_decide_eq_true (by kernel_rfl)
theorem law_point : WideMaps.KeyLaw Tryz.prog 44 := deep_law_laid laid_out (m := 3) (by omega) row_point (by kernel_rfl) (by kernel_rfl)
theorem row_two : (98 : Nat) < Tryz.prog.types.size := of_decide_eq_true (by kernel_rfl)
theorem law_two : WideMaps.KeyLaw Tryz.prog 98 := deep_law_laid laid_out (m := 3) (by omega) row_two (by kernel_rfl) (by kernel_rfl)
theorem cells_pair : Tryz.prog.cellsOf 87 = 2 := by kernel_rfl
theorem cells_two : Tryz.prog.cellsOf 98 = 2 := by kernel_rfl
theorem cells_point : Tryz.prog.cellsOf 44 = 2 := by kernel_rfl
theorem cells_int : Tryz.prog.cellsOf 3 = 1 := by kernel_rfl
theorem ktype_pair : Tryz.prog.keyType 87 = true := by kernel_rfl
theorem ktype_two : Tryz.prog.keyType 98 = true := by kernel_rfl
theorem ktype_point : Tryz.prog.keyType 44 = true := by kernel_rfl
theorem pair_key (a : Pr) (h : okPr a) : keyOf Tryz.prog 87 (prV a) = some (prL a) := by
  obtain ⟨d, hd⟩ : ∃ d, Tryz.prog.types.size + 1 = d + 2 := ⟨Tryz.prog.types.size - 1, by have : (87 : Nat) < Tryz.prog.types.size := row_pair; omega⟩
  have hf : a.1.size ≤ maxLen := Nat.le_trans h.1 (by unfold maxLen; omega)
  have ht : a.2.size ≤ maxLen := Nat.le_trans h.2 (by unfold maxLen; omega)
  have hfm : (prV a).formed Tryz.prog 87 = true := by
    simp [prV, Value.formed, Tryz.underlying87, cells_pair]
  unfold keyOf
  rw [Tryz.underlying87]
  simp only
  rw [ktype_pair, hfm, hd]
  simp [prV, prL, Program.keyLits, Tryz.underlying87, Tryz.underlying9, cells_pair, cells_str, Value.cells, hf, ht, List.range, List.range.loop]
theorem int_wf {n : Int} (h0 : -4000000000 ≤ n) (h1 : n ≤ 4000000000) : (Lit.int .i64 n).wf = true := by
  simp [Lit.wf, IntKind.min, IntKind.max, IntKind.signed, IntKind.bits]
  omega
theorem point_key (a : Pt) (h : okPt a) : keyOf Tryz.prog 44 (PlMap.ptV a) = some (ptL a) := by
  obtain ⟨d, hd⟩ : ∃ d, Tryz.prog.types.size + 1 = d + 2 := ⟨Tryz.prog.types.size - 1, by have : (44 : Nat) < Tryz.prog.types.size := row_point; omega⟩
  have hf := int_wf h.1 h.2.1
  have ht := int_wf h.2.2.1 h.2.2.2
  have hfm : (PlMap.ptV a).formed Tryz.prog 44 = true := by
    simp [PlMap.ptV, Value.formed, Tryz.underlying44, cells_point]
  unfold keyOf
  rw [Tryz.underlying44]
  simp only
  rw [ktype_point, hfm, hd]
  simp [PlMap.ptV, ptL, Program.keyLits, Tryz.underlying44, Tryz.underlying3, cells_point, cells_int, Value.cells, hf, ht]
theorem two_key (a : Pt) (h : okPt a) : keyOf Tryz.prog 98 (PlMap.ptV a) = some (ptL a) := by
  obtain ⟨d, hd⟩ : ∃ d, Tryz.prog.types.size + 1 = d + 2 := ⟨Tryz.prog.types.size - 1, by have : (98 : Nat) < Tryz.prog.types.size := row_two; omega⟩
  have hf := int_wf h.1 h.2.1
  have ht := int_wf h.2.2.1 h.2.2.2
  have hfm : (PlMap.ptV a).formed Tryz.prog 98 = true := by
    simp [PlMap.ptV, Value.formed, Tryz.underlying98, cells_two]
  unfold keyOf
  rw [Tryz.underlying98]
  simp only
  rw [ktype_two, hfm, hd]
  simp [PlMap.ptV, ptL, Program.keyLits, Tryz.underlying98, Tryz.underlying3, cells_two, cells_int, Value.cells, hf, ht, List.range, List.range.loop]
/-- Maps with pairs of texts, points, pairs of numbers as keys. -/
abbrev MapPr (w : World) (b : Nat) (l : List (Pr × Value)) : Prop := MapL (prKeys Tryz.prog 87 (Maps.Keyed.of_law law_pair) pair_key) w b l
abbrev MapPt (w : World) (b : Nat) (l : List (Pt × Value)) : Prop := MapL (ptKeys Tryz.prog 44 (Maps.Keyed.of_law law_point) point_key) w b l
abbrev MapTw (w : World) (b : Nat) (l : List (Pt × Value)) : Prop := MapL (ptKeys Tryz.prog 98 (Maps.Keyed.of_law law_two) two_key) w b l
theorem bgrow {W W' : World} (hb : Below W.heap.size W W') : W.grownBy W' none := ⟨hb.os, hb.tape, hb.output, hb.size, fun i hi _ => hb.block i hi⟩
/-- A parcel in memory: the map's objects, and where each stands. -/
structure PcI (w0 : World) (v : Value) (l : List Ob) (k bb bm : Nat) (ml : List (BA × Value)) (W : World) : Prop where
  box : W.heap[bb]? = some (.cells #[v, .map (some bm)] 81 (0, 0))
  map : MapS W bm ml
  find : ∀ s, getL ml s = (findN s (l.take k)).map (fun i => Value.int .i64 (i : Nat))
  len : ml.length ≤ k
  below : Below w0.heap.size w0 W
  lo : w0.heap.size ≤ bm
theorem PcI.lift {w0 : World} {v : Value} {l : List Ob} {k bb bm : Nat} {ml : List (BA × Value)} {W W' : World} (h : PcI w0 v l k bb bm ml W) (hb : Below W.heap.size W W') : PcI w0 v l k bb bm ml W' :=
  ⟨blkB hb h.box, h.map.kept (bgrow hb) (by simp), h.find, h.len, bto h.below hb, h.lo⟩
/-- A value that is a parcel. -/
def PcS (W : World) (l : List Ob) (pv : Value) : Prop := ∃ v bm ml, pv = .agg #[v, .map (some bm)] ∧ MapI W v l ∧ MapS W bm ml ∧ ∀ s, getL ml s = (findN s l).map (fun i => Value.int .i64 (i : Nat))
theorem PcS.below {W W' : World} {l : List Ob} {pv : Value} (h : PcS W l pv) (hb : Below W.heap.size W W') : PcS W' l pv := by
  obtain ⟨v, bm, ml, h1, h2, h3, h4⟩ := h
  exact ⟨v, bm, ml, h1, h2.below hb, h3.kept (bgrow hb) (by simp), h4⟩
theorem findN_snoc (s : BA) (M : List Ob) (o : Ob) : findN s (M ++ [o]) = (findN s M).or (if o.id = s then some M.length else none) := by
  induction M with
  | nil => simp [findN]
  | cons x M ih =>
    simp only [List.cons_append, findN, ih]
    split
    · simp
    · cases findN s M <;> simp
theorem findN_take {l : List Ob} (hu : uniq l) {k : Nat} {o : Ob} (ho : l[k]? = some o) (s : BA) : findN s (l.take (k + 1)) = if s = o.id then some k else findN s (l.take k) := by
  have hk := (List.getElem?_eq_some_iff.1 ho).1
  have e : l.take (k + 1) = l.take k ++ [o] := by rw [List.take_add_one, ho]; rfl
  rw [e, findN_snoc, List.length_take, Nat.min_eq_left (by omega)]
  by_cases h : s = o.id
  · subst h
    rw [if_pos rfl, if_pos rfl]
    cases e2 : findN o.id (l.take k) with
    | none => rfl
    | some i =>
      obtain ⟨x, h1, h2, h3, _⟩ := findN_some _ _ i e2
      rw [List.length_take] at h3
      rw [List.getElem?_take_of_lt (by omega)] at h1
      have hp := List.pairwise_iff_getElem.1 hu i k (by omega) hk (by omega)
      obtain ⟨_, rfl⟩ := List.getElem?_eq_some_iff.1 ho
      obtain ⟨_, rfl⟩ := List.getElem?_eq_some_iff.1 h1
      exact absurd h2 hp
  · rw [if_neg h, if_neg (fun e => h e.symm)]
    cases findN s (l.take k) <;> rfl
set_option maxRecDepth 100000 in
set_option maxHeartbeats 8000000 in
theorem pof_any (l : List Ob) (v : Value) (w : World) (hv : MapI w v l) :
    Calls Tryz.prog 29 #[.agg #[v]] w fun e w' => Below w.heap.size w w' ∧ ((mapB l = false ∧ ∃ pv, e = .returned (.tuple #[pv, .bool false])) ∨ (mapB l = true ∧ ∃ pv, e = .returned (.tuple #[pv, .bool true]) ∧ PcS w' l pv)) := by
  have HV := hide (fun w' hw' => avalid_any l v w' hw' hv.len hv.ok)
  have HI := hide hv
  have hlen := hv.len
  obtain ⟨A, c, rfl, _, hA⟩ := hv.obs
  have HA := hide hA
  have HS := hide hv.ok
  obtain ⟨wa, hwa⟩ : ∃ wa, (w.alloc (.cells #[.slice A l.length c] 24)).alloc (.cells #[.slice none 0 0, .map none] 81) = wa := ⟨_, rfl⟩
  have ha : Below w.heap.size w wa := by rw [← hwa]; exact ((Below.refl _ _).alloc (Nat.le_refl _) _).alloc (by simp) _
  have hm : wa.heap[w.heap.size]? = some (.cells #[.slice A l.length c] 24 (0, 0)) := by
    rw [← hwa]; exact blkB ((Below.refl _ _).alloc (Nat.le_refl _) _) (heap_alloc_new w _)
  have hr : wa.heap[w.heap.size + 1]? = some (.cells #[.slice none 0 0, .map none] 81 (0, 0)) := by
    rw [← hwa]
    have := heap_alloc_new (w.alloc (.cells #[.slice A l.length c] 24)) (.cells #[.slice none 0 0, .map none] 81)
    simpa using this
  have HV2 := hide (HV.out wa (HI.out.obs.below ha))
  have dm := (blk1 hm).1
  have HR := hide hr
  have HM := hide hm
  have HWA := hide ha
  clear hA hv HV
  cases hmb : mapB l with
  | false =>
    rw [hmb] at HV2
    clear hmb
    go_enter Tryz.func29, Tryz.ntmps29
    go_wp2_with fail
    refine HV2.out.mono ?_
    rintro _ w1 ⟨rfl, hb⟩
    have hr1 := blkB hb HR.out
    obtain ⟨⟨q0, q1⟩, f1, f2⟩ := blk2 hr1
    have HB := hide (bto HWA.out hb)
    clear hwa ha hm dm hb hr hr1
    go_wp2_with fail
    refine bodyPost_ret (v := .tuple #[.agg #[.slice none 0 0, .map none], .bool false]) (by simp [results, Tryz.results29, go_sem, q0, q1]) rfl ⟨(HB.out.setCell (by simp) _).setCell (by simp) _, .inl ⟨trivial, _, rfl⟩⟩
  | true =>
    rw [hmb] at HV2
    have HU := hide (mapB_uniq hmb)
    clear hmb
    go_enter Tryz.func29, Tryz.ntmps29
    go_wp2_with fail
    refine HV2.out.mono ?_
    rintro _ w1 ⟨rfl, hb⟩
    have hm1 := blkB hb HM.out
    have hr1 := blkB hb HR.out
    have dm1 := (blk1 hm1).1
    have e1 : ∀ o1 o2 : Obj, ((w1.alloc o1).alloc o2).cell? ⟨w.heap.size, 0, none⟩ = some (.slice A l.length c) := fun o1 o2 =>
      (blk1 (blkB (((Below.refl w1.heap.size w1).alloc (Nat.le_refl _) o1).alloc (by simp) o2) hm1)).1
    obtain ⟨W0, hW0⟩ : ∃ W0, (w1.alloc (.map #[] 0)).alloc (.cells #[.slice A l.length c, .map (some w1.heap.size)] 81) = W0 := ⟨_, rfl⟩
    have hb0 : Below w1.heap.size w1 W0 := by rw [← hW0]; exact ((Below.refl _ _).alloc (Nat.le_refl _) _).alloc (by simp) _
    have hsz : w.heap.size + 2 ≤ w1.heap.size := by
      have h1 := (Array.getElem?_eq_some_iff.1 hr1).1
      omega
    have HP : Hid (PcI w (.slice A l.length c) l 0 (w1.heap.size + 1) w1.heap.size [] W0) := by
      refine hide ⟨?_, ?_, fun s => rfl, Nat.le_refl _, bto (bto HWA.out hb) hb0, by omega⟩
      · rw [← hW0]
        have := heap_alloc_new (w1.alloc (.map #[] 0)) (.cells #[.slice A l.length c, .map (some w1.heap.size)] 81)
        simpa using this
      · rw [← hW0]
        exact (mapL_made _ w1).alloc _
    have HR1 : Hid (W0.heap[w.heap.size + 1]? = some (.cells #[.slice none 0 0, .map none] 81 (0, 0))) := hide (blkB hb0 hr1)
    have HSZ := hide hsz
    obtain ⟨bm, hbm⟩ : ∃ bm, w1.heap.size = bm := ⟨_, rfl⟩
    have HBM := hide hbm
    clear hwa hm dm hb hr hr1 ha hsz hb0 HV2 HR HM
    have HW0 := hide hW0
    clear hW0 hbm
    go_wp2_with fail
    rw [HW0.out]
    rw [HBM.out] at HP HSZ ⊢
    clear HW0 hm1 dm1 e1 HBM
    go_loopw [17] (fun i wr => ∃ (k : Nat) (ml : List (ByteArray × Value)), k ≤ l.length ∧ i = .int .i64 k ∧ Hid (PcI w (.slice A l.length c) l k (bm + 1) bm ml wr) ∧ Hid (wr.heap[w.heap.size + 1]? = some (.cells #[.slice none 0 0, .map none] 81 (0, 0)))) (fun i _ => l.length - (intOf i).toNat)
    case atStart => exact ⟨0, [], Nat.zero_le _, rfl, HP, HR1⟩
    case round =>
      clear HP HR1
      obtain ⟨k, ml, hk, rfl, hpc, hrr⟩ := hrel
      by_cases hlt : k < l.length
      · obtain ⟨g, o, rfl, hg, hp⟩ := HA.out.resolve_left (by rintro rfl; simp at hlt)
        obtain ⟨rv, tv, hoa⟩ := hp k _ (List.getElem?_eq_getElem hlt)
        obtain ⟨Ar, cr, hrv, _⟩ := id hoa.refs
        obtain ⟨At, ct, htv, _⟩ := id hoa.tags
        subst hrv
        subst htv
        obtain ⟨c0, c1, c2, c3, c4, c5, _, _⟩ := hoa.below hg hpc.out.below
        have hok := HS.out _ (List.getElem_mem hlt)
        have HFT := hide (fun s => findN_take HU.out (List.getElem?_eq_getElem hlt) s)
        generalize l[k] = t at *
        have k0 : (0 : Int) ≤ k := by omega
        have k1 : (k : Int) < l.length := by omega
        have HL := hide hlt
        have HMS := hide (show l.length - (k + 1) < l.length - k from by omega)
        obtain ⟨wo, hwo⟩ : ∃ wo, wr.alloc (.cells #[.string t.id, .int .i64 t.kind, .int .i64 t.x, .int .i64 t.y, .slice Ar t.refs.length cr, .slice At t.tags.length ct] 47) = wo := ⟨_, rfl⟩
        have hba : Below wr.heap.size wr wo := by rw [← hwo]; exact (Below.refl _ _).alloc (Nat.le_refl _) _
        have hblk : wo.heap[wr.heap.size]? = some (.cells #[.string t.id, .int .i64 t.kind, .int .i64 t.x, .int .i64 t.y, .slice Ar t.refs.length cr, .slice At t.tags.length ct] 47 (0, 0)) := by rw [← hwo]; exact heap_alloc_new _ _
        have hp2 := hpc.out.lift hba
        have d0 : wo.cell? ⟨wr.heap.size, 0, none⟩ = some (.string t.id) := cell_of_row wo _ 0 _ _ _ hblk
        have p1 := (blk2 hp2.box).1.2
        have hsi : t.id.size ≤ maxLen := Nat.le_trans hok.1 (by unfold maxLen; omega)
        obtain ⟨W3, hst, hml, htu⟩ := hp2.map.store Tryz.underlying37 (by have := hp2.len; unfold maxLen; omega) (x := t.id) hsi (.int .i64 (k : Nat))
        change (Instr.mapUpdate 37 (.map (some bm)) (.string t.id) (.int .i64 (k : Int))).run _ _ = _ at hst
        have HP3 : Hid (PcI w (.slice (some ⟨g, o, none⟩) l.length c) l (k + 1) (bm + 1) bm (putL ml t.id (.int .i64 (k : Nat))) W3) := by
          refine hide ⟨turned_blk htu hp2.box (by omega), hml, fun s => ?_, ?_, belowK_map hp2.below hp2.lo htu, hp2.lo⟩
          · rw [getL_put, HFT.out s, hp2.find]
            by_cases e : s = t.id
            · rw [if_pos e, if_pos e]; rfl
            · rw [if_neg e, if_neg e]
          · rw [putL_len]
            have := hp2.len
            split <;> omega
        have HR3 : Hid (W3.heap[w.heap.size + 1]? = some (.cells #[.slice none 0 0, .map none] 81 (0, 0))) := hide (turned_blk htu (blkB hba hrr.out) (by have := HSZ.out; omega))
        clear hlt hp hoa hpc hrr hok hba hblk hp2 hml htu hsi HFT
        go_wp2_with fail
        refine ⟨⟨k + 1, _, HL.out, by go_num, HP3, HR3⟩, ?_⟩
        have := HMS.out
        simp [intOf]; omega
      · obtain rfl : k = l.length := by omega
        have k1 : ¬ (l.length : Int) < (l.length : Nat) := by omega
        have HPC := hide hpc.out
        have p0 := (blk2 hpc.out.box).1.1
        have p1 := (blk2 hpc.out.box).1.2
        obtain ⟨⟨q0, q1⟩, f1, f2⟩ := blk2 hrr.out
        have HRR := hide hrr.out
        clear hpc hrr hlt
        go_wp2_with fail
        have HBB : Below w.heap.size w ((wr.setCell ⟨w.heap.size + 1, 0, none⟩ (.slice A l.length c)).setCell ⟨w.heap.size + 1, 1, none⟩ (.map (some bm))) := (HPC.out.below.setCell (by simp) _).setCell (by simp) _
        refine bodyPost_ret (v := .tuple #[.agg #[.slice A l.length c, .map (some bm)], .bool true]) (by simp [results, Tryz.results29, go_sem, q0, q1]) rfl ⟨HBB, _, rfl, .slice A l.length c, bm, ml, rfl, ⟨HI.out.obs.below HBB, HI.out.len, HI.out.ok⟩, ?_, fun s => by rw [HPC.out.find, List.take_length]⟩
        exact (HPC.out.map.setCell (by intro e; have := HSZ.out; simp at e; omega) _).setCell (by intro e; have := HSZ.out; simp at e; omega) _
end Go.Proofs.YtfkgjbdeicggaaaGreat
