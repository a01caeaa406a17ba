/-
  object.Valid, walked.
-/
import Derived.Test.YtfkgjbdeicggaaaGreatNetD
import Derived.Sort.MapsRangeIn
namespace Go.Proofs.YtfkgjbdeicggaaaGreat
open Go.RowKit Go.Proofs.PlLex Go.Proofs.PlNet Go.Proofs.PlMap
attribute [local go_sem] run_makeMap

/-- An object in a box. -/
structure OB (w : World) (o : Ob) (rv tv : Value) (wx : World) : Prop where
  box : wx.heap[w.heap.size]? = some (.cells (obV o rv tv) 47 (0, 0))
  below : Below w.heap.size w wx
theorem OB.lift {w wx wy : World} {o : Ob} {rv tv : Value} (h : OB w o rv tv wx) (hb : Below wx.heap.size wx wy) : OB w o rv tv wy := ⟨blkB hb h.box, bto h.below hb⟩
theorem OB.drew {w wx : World} {o : Ob} {rv tv : Value} (h : OB w o rv tv wx) : OB w o rv tv wx.drew := ⟨h.box, h.below.drew⟩
theorem OB.cells {w wx : World} {o : Ob} {rv tv : Value} (h : OB w o rv tv wx) : wx.cell? ⟨w.heap.size, 0, none⟩ = some (.string o.id) ∧ wx.cell? ⟨w.heap.size, 1, none⟩ = some (.int .i64 o.kind) ∧ wx.cell? ⟨w.heap.size, 2, none⟩ = some (.int .i64 o.x) ∧ wx.cell? ⟨w.heap.size, 3, none⟩ = some (.int .i64 o.y) ∧ wx.cell? ⟨w.heap.size, 4, none⟩ = some rv ∧ wx.cell? ⟨w.heap.size, 5, none⟩ = some tv :=
  ⟨cell_of_row wx _ 0 _ _ _ h.box, cell_of_row wx _ 1 _ _ _ h.box, cell_of_row wx _ 2 _ _ _ h.box, cell_of_row wx _ 3 _ _ _ h.box, cell_of_row wx _ 4 _ _ _ h.box, cell_of_row wx _ 5 _ _ _ h.box⟩
def OBs (w : World) (o : Ob) (rv tv : Value) : Type := {wx : World // OB w o rv tv wx}
def OBs.w {w : World} {o : Ob} {rv tv : Value} (u : OBs w o rv tv) : World := u.1
theorem OBs.go {w : World} {o : Ob} {rv tv : Value} (u : OBs w o rv tv) {w8 : World} (hb : Below u.w.heap.size u.w w8) : ∃ u' : OBs w o rv tv, w8 = u'.w := ⟨⟨w8, u.2.lift hb⟩, rfl⟩
theorem wordS_in (k : Int) (h1 : 1 ≤ k) (h5 : k ≤ 5) : (wordS k).toList.isEmpty = false := by
  have : k = 1 ∨ k = 2 ∨ k = 3 ∨ k = 4 ∨ k = 5 := by omega
  rcases this with rfl | rfl | rfl | rfl | rfl <;> decide +kernel

set_option maxRecDepth 100000 in
set_option maxHeartbeats 8000000 in
theorem ovalid_kind (o : Ob) (rv tv : Value) (w : World) (hr : StS w rv o.refs) (ht : TgS w tv o.tags) (ho : okO o) (h : o.kind < 1 ∨ 5 < o.kind) :
    Calls Tryz.prog 28 #[.agg (obV o rv tv)] w fun e w' => e = .returned (.bool false) ∧ Below w.heap.size w w' := by
  obtain ⟨ho1, ho2, ho3, ho4, ho5⟩ := ho
  have HN := hide (fun w => pname_any o.id w (Nat.le_trans ho1 (by unfold maxLen; omega)))
  have HV := hide (fun (u : OBs w o rv tv) => tvalid_any o.tags tv u.w (ht.below u.2.below) ho4 ho5)
  have HW := hide (fun w => word_any2 o.kind w)
  rw [wordS_out _ h] at HW
  have HL := HN
  clear ho1 ho3 ho4 ho5
  obtain ⟨A, c, rfl, _, hA⟩ := hr
  obtain ⟨A2, c2, rfl, _⟩ := ht
  unfold obV
  obtain ⟨oid, k, x, y, refs, tags⟩ := o
  simp only at *
  go_enter Tryz.func28, Tryz.ntmps28
  go_wp2_with fail
  obtain ⟨O, hO⟩ : ∃ O : Ob, O = ⟨oid, k, x, y, refs, tags⟩ := ⟨_, rfl⟩
  have hb0 : OB w O (.slice A refs.length c) (.slice A2 tags.length c2) (w.alloc (.cells #[.string oid, .int .i64 k, .int .i64 x, .int .i64 y, .slice A refs.length c, .slice A2 tags.length c2] 47)) := ⟨by rw [hO]; exact heap_alloc_new _ _, (Below.refl _ _).alloc (Nat.le_refl _) _⟩
  have Y1 : ∀ u : OBs w O (.slice A refs.length c) (.slice A2 tags.length c2), u.w.cell? ⟨w.heap.size, 0, none⟩ = some (.string oid) := fun u => (show u.w.cell? _ = _ from u.2.cells.1).trans (congrArg (fun o : Ob => some (Value.string o.id)) hO)
  have Y2 : ∀ u : OBs w O (.slice A refs.length c) (.slice A2 tags.length c2), u.w.cell? ⟨w.heap.size, 1, none⟩ = some (.int .i64 k) := fun u => (show u.w.cell? _ = _ from u.2.cells.2.1).trans (congrArg (fun o : Ob => some (Value.int .i64 o.kind)) hO)
  have Y3 : ∀ u : OBs w O (.slice A refs.length c) (.slice A2 tags.length c2), u.w.cell? ⟨w.heap.size, 4, none⟩ = some (.slice A refs.length c) := fun u => u.2.cells.2.2.2.2.1
  have Y4 : ∀ u : OBs w O (.slice A refs.length c) (.slice A2 tags.length c2), u.w.cell? ⟨w.heap.size, 5, none⟩ = some (.slice A2 tags.length c2) := fun u => u.2.cells.2.2.2.2.2
  have YN : Nonempty (OBs w O (.slice A refs.length c) (.slice A2 tags.length c2)) := ⟨⟨_, hb0.drew⟩⟩
  rw [← hO] at HV
  have HO := hide hO
  clear hO
  refine wp_region_quietW (J := OBs w O (.slice A refs.length c) (.slice A2 tags.length c2)) OBs.w ⟨_, hb0.drew⟩ rfl (by kernel_rfl) (by kernel_rfl) ?_
  repeat (go_big_quiet_step ((first | ((with_reducible refine (HW.out _).mono ?_); rintro _ w8 ⟨rfl, b8⟩; exact ⟨rfl, OBs.go _ b8⟩) | ((with_reducible refine (HN.out _).mono ?_); rintro _ w8 ⟨rfl, b8⟩; exact ⟨rfl, OBs.go _ b8⟩) | ((with_reducible refine (HV.out _).mono ?_); rintro _ w8 ⟨rfl, b8⟩; exact ⟨rfl, OBs.go _ b8⟩) | ((with_reducible refine (HL.out _).mono ?_); rintro _ w8 ⟨rfl, rfl⟩; exact ⟨rfl, ⟨_, rfl⟩⟩))))
  refine wpQuiet_nil ?_
  rintro w9 ⟨u, rfl⟩
  have HB := hide u.2.below
  go_wp2_with fail
  go_ret
  exact ⟨rfl, HB.out⟩

set_option maxRecDepth 100000 in
set_option maxHeartbeats 8000000 in
theorem ovalid_name (o : Ob) (rv tv : Value) (w : World) (hr : StS w rv o.refs) (ht : TgS w tv o.tags) (ho : okO o) (h1 : 1 ≤ o.kind) (h5 : o.kind ≤ 5) (hn : name o.id.data.toList = false) :
    Calls Tryz.prog 28 #[.agg (obV o rv tv)] w fun e w' => e = .returned (.bool false) ∧ Below w.heap.size w w' := by
  obtain ⟨ho1, ho2, ho3, ho4, ho5⟩ := ho
  have HN := hide (fun w => pname_any o.id w (Nat.le_trans ho1 (by unfold maxLen; omega)))
  have HV := hide (fun (u : OBs w o rv tv) => tvalid_any o.tags tv u.w (ht.below u.2.below) ho4 ho5)
  have HW := hide (fun w => word_any2 o.kind w)
  have hwn := wordS_in _ h1 h5
  rw [hn] at HN
  have HL := HN
  clear hn
  clear ho1 ho3 ho4 ho5
  obtain ⟨A, c, rfl, _, hA⟩ := hr
  obtain ⟨A2, c2, rfl, _⟩ := ht
  unfold obV
  obtain ⟨oid, k, x, y, refs, tags⟩ := o
  simp only at *
  go_enter Tryz.func28, Tryz.ntmps28
  go_wp2_with fail
  obtain ⟨O, hO⟩ : ∃ O : Ob, O = ⟨oid, k, x, y, refs, tags⟩ := ⟨_, rfl⟩
  have hb0 : OB w O (.slice A refs.length c) (.slice A2 tags.length c2) (w.alloc (.cells #[.string oid, .int .i64 k, .int .i64 x, .int .i64 y, .slice A refs.length c, .slice A2 tags.length c2] 47)) := ⟨by rw [hO]; exact heap_alloc_new _ _, (Below.refl _ _).alloc (Nat.le_refl _) _⟩
  have Y1 : ∀ u : OBs w O (.slice A refs.length c) (.slice A2 tags.length c2), u.w.cell? ⟨w.heap.size, 0, none⟩ = some (.string oid) := fun u => (show u.w.cell? _ = _ from u.2.cells.1).trans (congrArg (fun o : Ob => some (Value.string o.id)) hO)
  have Y2 : ∀ u : OBs w O (.slice A refs.length c) (.slice A2 tags.length c2), u.w.cell? ⟨w.heap.size, 1, none⟩ = some (.int .i64 k) := fun u => (show u.w.cell? _ = _ from u.2.cells.2.1).trans (congrArg (fun o : Ob => some (Value.int .i64 o.kind)) hO)
  have Y3 : ∀ u : OBs w O (.slice A refs.length c) (.slice A2 tags.length c2), u.w.cell? ⟨w.heap.size, 4, none⟩ = some (.slice A refs.length c) := fun u => u.2.cells.2.2.2.2.1
  have Y4 : ∀ u : OBs w O (.slice A refs.length c) (.slice A2 tags.length c2), u.w.cell? ⟨w.heap.size, 5, none⟩ = some (.slice A2 tags.length c2) := fun u => u.2.cells.2.2.2.2.2
  have YN : Nonempty (OBs w O (.slice A refs.length c) (.slice A2 tags.length c2)) := ⟨⟨_, hb0.drew⟩⟩
  rw [← hO] at HV
  have HO := hide hO
  clear hO
  refine wp_region_quietW (J := OBs w O (.slice A refs.length c) (.slice A2 tags.length c2)) OBs.w ⟨_, hb0.drew⟩ rfl (by kernel_rfl) (by kernel_rfl) ?_
  repeat (go_big_quiet_step ((first | ((with_reducible refine (HW.out _).mono ?_); rintro _ w8 ⟨rfl, b8⟩; exact ⟨rfl, OBs.go _ b8⟩) | ((with_reducible refine (HN.out _).mono ?_); rintro _ w8 ⟨rfl, b8⟩; exact ⟨rfl, OBs.go _ b8⟩) | ((with_reducible refine (HV.out _).mono ?_); rintro _ w8 ⟨rfl, b8⟩; exact ⟨rfl, OBs.go _ b8⟩) | ((with_reducible refine (HL.out _).mono ?_); rintro _ w8 ⟨rfl, rfl⟩; exact ⟨rfl, ⟨_, rfl⟩⟩))))
  refine wpQuiet_nil ?_
  rintro w9 ⟨u, rfl⟩
  have HB := hide u.2.below
  go_wp2_with fail
  go_ret
  exact ⟨rfl, HB.out⟩

set_option maxRecDepth 100000 in
set_option maxHeartbeats 8000000 in
theorem ovalid_tags (o : Ob) (rv tv : Value) (w : World) (hr : StS w rv o.refs) (ht : TgS w tv o.tags) (ho : okO o) (h1 : 1 ≤ o.kind) (h5 : o.kind ≤ 5) (hn : name o.id.data.toList = true) (hv : tagsB o.tags = false) :
    Calls Tryz.prog 28 #[.agg (obV o rv tv)] w fun e w' => e = .returned (.bool false) ∧ Below w.heap.size w w' := by
  obtain ⟨ho1, ho2, ho3, ho4, ho5⟩ := ho
  have HN := hide (fun w => pname_any o.id w (Nat.le_trans ho1 (by unfold maxLen; omega)))
  have HV := hide (fun (u : OBs w o rv tv) => tvalid_any o.tags tv u.w (ht.below u.2.below) ho4 ho5)
  have HW := hide (fun w => word_any2 o.kind w)
  have hwn := wordS_in _ h1 h5
  rw [hn] at HN
  rw [hv] at HV
  have HL := HN
  clear hn hv
  clear ho1 ho3 ho4 ho5
  obtain ⟨A, c, rfl, _, hA⟩ := hr
  obtain ⟨A2, c2, rfl, _⟩ := ht
  unfold obV
  obtain ⟨oid, k, x, y, refs, tags⟩ := o
  simp only at *
  go_enter Tryz.func28, Tryz.ntmps28
  go_wp2_with fail
  obtain ⟨O, hO⟩ : ∃ O : Ob, O = ⟨oid, k, x, y, refs, tags⟩ := ⟨_, rfl⟩
  have hb0 : OB w O (.slice A refs.length c) (.slice A2 tags.length c2) (w.alloc (.cells #[.string oid, .int .i64 k, .int .i64 x, .int .i64 y, .slice A refs.length c, .slice A2 tags.length c2] 47)) := ⟨by rw [hO]; exact heap_alloc_new _ _, (Below.refl _ _).alloc (Nat.le_refl _) _⟩
  have Y1 : ∀ u : OBs w O (.slice A refs.length c) (.slice A2 tags.length c2), u.w.cell? ⟨w.heap.size, 0, none⟩ = some (.string oid) := fun u => (show u.w.cell? _ = _ from u.2.cells.1).trans (congrArg (fun o : Ob => some (Value.string o.id)) hO)
  have Y2 : ∀ u : OBs w O (.slice A refs.length c) (.slice A2 tags.length c2), u.w.cell? ⟨w.heap.size, 1, none⟩ = some (.int .i64 k) := fun u => (show u.w.cell? _ = _ from u.2.cells.2.1).trans (congrArg (fun o : Ob => some (Value.int .i64 o.kind)) hO)
  have Y3 : ∀ u : OBs w O (.slice A refs.length c) (.slice A2 tags.length c2), u.w.cell? ⟨w.heap.size, 4, none⟩ = some (.slice A refs.length c) := fun u => u.2.cells.2.2.2.2.1
  have Y4 : ∀ u : OBs w O (.slice A refs.length c) (.slice A2 tags.length c2), u.w.cell? ⟨w.heap.size, 5, none⟩ = some (.slice A2 tags.length c2) := fun u => u.2.cells.2.2.2.2.2
  have YN : Nonempty (OBs w O (.slice A refs.length c) (.slice A2 tags.length c2)) := ⟨⟨_, hb0.drew⟩⟩
  rw [← hO] at HV
  have HO := hide hO
  clear hO
  refine wp_region_quietW (J := OBs w O (.slice A refs.length c) (.slice A2 tags.length c2)) OBs.w ⟨_, hb0.drew⟩ rfl (by kernel_rfl) (by kernel_rfl) ?_
  repeat (go_big_quiet_step ((first | ((with_reducible refine (HW.out _).mono ?_); rintro _ w8 ⟨rfl, b8⟩; exact ⟨rfl, OBs.go _ b8⟩) | ((with_reducible refine (HN.out _).mono ?_); rintro _ w8 ⟨rfl, b8⟩; exact ⟨rfl, OBs.go _ b8⟩) | ((with_reducible refine (HV.out _).mono ?_); rintro _ w8 ⟨rfl, b8⟩; exact ⟨rfl, OBs.go _ b8⟩) | ((with_reducible refine (HL.out _).mono ?_); rintro _ w8 ⟨rfl, rfl⟩; exact ⟨rfl, ⟨_, rfl⟩⟩))))
  refine wpQuiet_nil ?_
  rintro w9 ⟨u, rfl⟩
  have HB := hide u.2.below
  go_wp2_with fail
  go_ret
  exact ⟨rfl, HB.out⟩

set_option maxRecDepth 100000 in
set_option maxHeartbeats 8000000 in
theorem ovalid_less (o : Ob) (rv tv : Value) (w : World) (hr : StS w rv o.refs) (ht : TgS w tv o.tags) (ho : okO o) (h1 : 1 ≤ o.kind) (h5 : o.kind ≤ 5) (hn : name o.id.data.toList = true) (hv : tagsB o.tags = true) (hz : o.refs.length < leastK o.kind) :
    Calls Tryz.prog 28 #[.agg (obV o rv tv)] w fun e w' => e = .returned (.bool false) ∧ Below w.heap.size w w' := by
  obtain ⟨ho1, ho2, ho3, ho4, ho5⟩ := ho
  have HN := hide (fun w => pname_any o.id w (Nat.le_trans ho1 (by unfold maxLen; omega)))
  have HV := hide (fun (u : OBs w o rv tv) => tvalid_any o.tags tv u.w (ht.below u.2.below) ho4 ho5)
  have HW := hide (fun w => word_any2 o.kind w)
  have hwn := wordS_in _ h1 h5
  rw [hn] at HN
  rw [hv] at HV
  have HL := hide (fun w => least_any o.kind h1 h5 w)
  have hz2 : (o.refs.length : Int) < leastK o.kind := by omega
  clear hn hv hz
  clear ho1 ho3 ho4 ho5
  obtain ⟨A, c, rfl, _, hA⟩ := hr
  obtain ⟨A2, c2, rfl, _⟩ := ht
  unfold obV
  obtain ⟨oid, k, x, y, refs, tags⟩ := o
  simp only at *
  go_enter Tryz.func28, Tryz.ntmps28
  go_wp2_with fail
  obtain ⟨O, hO⟩ : ∃ O : Ob, O = ⟨oid, k, x, y, refs, tags⟩ := ⟨_, rfl⟩
  have hb0 : OB w O (.slice A refs.length c) (.slice A2 tags.length c2) (w.alloc (.cells #[.string oid, .int .i64 k, .int .i64 x, .int .i64 y, .slice A refs.length c, .slice A2 tags.length c2] 47)) := ⟨by rw [hO]; exact heap_alloc_new _ _, (Below.refl _ _).alloc (Nat.le_refl _) _⟩
  have Y1 : ∀ u : OBs w O (.slice A refs.length c) (.slice A2 tags.length c2), u.w.cell? ⟨w.heap.size, 0, none⟩ = some (.string oid) := fun u => (show u.w.cell? _ = _ from u.2.cells.1).trans (congrArg (fun o : Ob => some (Value.string o.id)) hO)
  have Y2 : ∀ u : OBs w O (.slice A refs.length c) (.slice A2 tags.length c2), u.w.cell? ⟨w.heap.size, 1, none⟩ = some (.int .i64 k) := fun u => (show u.w.cell? _ = _ from u.2.cells.2.1).trans (congrArg (fun o : Ob => some (Value.int .i64 o.kind)) hO)
  have Y3 : ∀ u : OBs w O (.slice A refs.length c) (.slice A2 tags.length c2), u.w.cell? ⟨w.heap.size, 4, none⟩ = some (.slice A refs.length c) := fun u => u.2.cells.2.2.2.2.1
  have Y4 : ∀ u : OBs w O (.slice A refs.length c) (.slice A2 tags.length c2), u.w.cell? ⟨w.heap.size, 5, none⟩ = some (.slice A2 tags.length c2) := fun u => u.2.cells.2.2.2.2.2
  have YN : Nonempty (OBs w O (.slice A refs.length c) (.slice A2 tags.length c2)) := ⟨⟨_, hb0.drew⟩⟩
  rw [← hO] at HV
  have HO := hide hO
  clear hO
  refine wp_region_quietW (J := OBs w O (.slice A refs.length c) (.slice A2 tags.length c2)) OBs.w ⟨_, hb0.drew⟩ rfl (by kernel_rfl) (by kernel_rfl) ?_
  repeat (go_big_quiet_step ((first | ((with_reducible refine (HW.out _).mono ?_); rintro _ w8 ⟨rfl, b8⟩; exact ⟨rfl, OBs.go _ b8⟩) | ((with_reducible refine (HN.out _).mono ?_); rintro _ w8 ⟨rfl, b8⟩; exact ⟨rfl, OBs.go _ b8⟩) | ((with_reducible refine (HV.out _).mono ?_); rintro _ w8 ⟨rfl, b8⟩; exact ⟨rfl, OBs.go _ b8⟩) | ((with_reducible refine (HL.out _).mono ?_); rintro _ w8 ⟨rfl, rfl⟩; exact ⟨rfl, ⟨_, rfl⟩⟩))))
  refine wpQuiet_nil ?_
  rintro w9 ⟨u, rfl⟩
  have HB := hide u.2.below
  go_wp2_with fail
  go_ret
  exact ⟨rfl, HB.out⟩

set_option maxRecDepth 100000 in
set_option maxHeartbeats 8000000 in
theorem ovalid_many (o : Ob) (rv tv : Value) (w : World) (hr : StS w rv o.refs) (ht : TgS w tv o.tags) (ho : okO o) (h1 : 1 ≤ o.kind) (h5 : o.kind ≤ 5) (hn : name o.id.data.toList = true) (hv : tagsB o.tags = true) (hz : leastK o.kind ≤ o.refs.length) (hm : 2000 < o.refs.length) :
    Calls Tryz.prog 28 #[.agg (obV o rv tv)] w fun e w' => e = .returned (.bool false) ∧ Below w.heap.size w w' := by
  obtain ⟨ho1, ho2, ho3, ho4, ho5⟩ := ho
  have HN := hide (fun w => pname_any o.id w (Nat.le_trans ho1 (by unfold maxLen; omega)))
  have HV := hide (fun (u : OBs w o rv tv) => tvalid_any o.tags tv u.w (ht.below u.2.below) ho4 ho5)
  have HW := hide (fun w => word_any2 o.kind w)
  have hwn := wordS_in _ h1 h5
  rw [hn] at HN
  rw [hv] at HV
  have HL := hide (fun w => least_any o.kind h1 h5 w)
  have hz4 : decide (o.refs.length < leastK o.kind) = false := decide_eq_false (by omega)
  have hz3 : (2000 : Int) < o.refs.length := by omega
  clear hn hv hz hm
  clear ho1 ho3 ho4 ho5
  obtain ⟨A, c, rfl, _, hA⟩ := hr
  obtain ⟨A2, c2, rfl, _⟩ := ht
  unfold obV
  obtain ⟨oid, k, x, y, refs, tags⟩ := o
  simp only at *
  go_enter Tryz.func28, Tryz.ntmps28
  go_wp2_with fail
  obtain ⟨O, hO⟩ : ∃ O : Ob, O = ⟨oid, k, x, y, refs, tags⟩ := ⟨_, rfl⟩
  have hb0 : OB w O (.slice A refs.length c) (.slice A2 tags.length c2) (w.alloc (.cells #[.string oid, .int .i64 k, .int .i64 x, .int .i64 y, .slice A refs.length c, .slice A2 tags.length c2] 47)) := ⟨by rw [hO]; exact heap_alloc_new _ _, (Below.refl _ _).alloc (Nat.le_refl _) _⟩
  have Y1 : ∀ u : OBs w O (.slice A refs.length c) (.slice A2 tags.length c2), u.w.cell? ⟨w.heap.size, 0, none⟩ = some (.string oid) := fun u => (show u.w.cell? _ = _ from u.2.cells.1).trans (congrArg (fun o : Ob => some (Value.string o.id)) hO)
  have Y2 : ∀ u : OBs w O (.slice A refs.length c) (.slice A2 tags.length c2), u.w.cell? ⟨w.heap.size, 1, none⟩ = some (.int .i64 k) := fun u => (show u.w.cell? _ = _ from u.2.cells.2.1).trans (congrArg (fun o : Ob => some (Value.int .i64 o.kind)) hO)
  have Y3 : ∀ u : OBs w O (.slice A refs.length c) (.slice A2 tags.length c2), u.w.cell? ⟨w.heap.size, 4, none⟩ = some (.slice A refs.length c) := fun u => u.2.cells.2.2.2.2.1
  have Y4 : ∀ u : OBs w O (.slice A refs.length c) (.slice A2 tags.length c2), u.w.cell? ⟨w.heap.size, 5, none⟩ = some (.slice A2 tags.length c2) := fun u => u.2.cells.2.2.2.2.2
  have YN : Nonempty (OBs w O (.slice A refs.length c) (.slice A2 tags.length c2)) := ⟨⟨_, hb0.drew⟩⟩
  rw [← hO] at HV
  have HO := hide hO
  clear hO
  refine wp_region_quietW (J := OBs w O (.slice A refs.length c) (.slice A2 tags.length c2)) OBs.w ⟨_, hb0.drew⟩ rfl (by kernel_rfl) (by kernel_rfl) ?_
  repeat (go_big_quiet_step ((first | ((with_reducible refine (HW.out _).mono ?_); rintro _ w8 ⟨rfl, b8⟩; exact ⟨rfl, OBs.go _ b8⟩) | ((with_reducible refine (HN.out _).mono ?_); rintro _ w8 ⟨rfl, b8⟩; exact ⟨rfl, OBs.go _ b8⟩) | ((with_reducible refine (HV.out _).mono ?_); rintro _ w8 ⟨rfl, b8⟩; exact ⟨rfl, OBs.go _ b8⟩) | ((with_reducible refine (HL.out _).mono ?_); rintro _ w8 ⟨rfl, rfl⟩; exact ⟨rfl, ⟨_, rfl⟩⟩))))
  refine wpQuiet_nil ?_
  rintro w9 ⟨u, rfl⟩
  have HB := hide u.2.below
  go_wp2_with fail
  go_ret
  exact ⟨rfl, HB.out⟩

set_option maxRecDepth 100000 in
set_option maxHeartbeats 8000000 in
theorem ovalid_good (o : Ob) (rv tv : Value) (w : World) (hr : StS w rv o.refs) (ht : TgS w tv o.tags) (ho : okO o) (h1 : 1 ≤ o.kind) (h5 : o.kind ≤ 5) (hn : name o.id.data.toList = true) (hv : tagsB o.tags = true) (hz : leastK o.kind ≤ o.refs.length) (hm : o.refs.length ≤ 2000) :
    Calls Tryz.prog 28 #[.agg (obV o rv tv)] w fun e w' => e = .returned (.bool (refsB o.kind [] ⟨#[]⟩ o.refs && tailB o)) ∧ Below w.heap.size w w' := by
  obtain ⟨ho1, ho2, ho3, ho4, ho5⟩ := ho
  have HN := hide (fun w => pname_any o.id w (Nat.le_trans ho1 (by unfold maxLen; omega)))
  have HV := hide (fun (u : OBs w o rv tv) => tvalid_any o.tags tv u.w (ht.below u.2.below) ho4 ho5)
  have HW := hide (fun w => word_any2 o.kind w)
  have hwn := wordS_in _ h1 h5
  rw [hn] at HN
  rw [hv] at HV
  have HL := hide (fun w => least_any o.kind h1 h5 w)
  have HT := hide (And.intro hr ho3)
  have HR0 := hide hm
  obtain ⟨R, hR⟩ : ∃ R, (refsB o.kind [] ⟨#[]⟩ o.refs && tailB o) = R := ⟨_, rfl⟩
  rw [hR]
  have HR := hide hR
  have hz2 : ¬ (o.refs.length : Int) < leastK o.kind := by omega
  have hz4 : decide (o.refs.length < leastK o.kind) = false := decide_eq_false (by omega)
  have hz3 : ¬ (2000 : Int) < o.refs.length := by omega
  clear hn hv hz hm hR
  clear ho1 ho3 ho4 ho5
  obtain ⟨A, c, rfl, _, hA⟩ := hr
  obtain ⟨A2, c2, rfl, _⟩ := ht
  unfold obV
  obtain ⟨oid, k, x, y, refs, tags⟩ := o
  simp only at *
  go_enter Tryz.func28, Tryz.ntmps28
  go_wp2_with fail
  obtain ⟨O, hO⟩ : ∃ O : Ob, O = ⟨oid, k, x, y, refs, tags⟩ := ⟨_, rfl⟩
  have hb0 : OB w O (.slice A refs.length c) (.slice A2 tags.length c2) (w.alloc (.cells #[.string oid, .int .i64 k, .int .i64 x, .int .i64 y, .slice A refs.length c, .slice A2 tags.length c2] 47)) := ⟨by rw [hO]; exact heap_alloc_new _ _, (Below.refl _ _).alloc (Nat.le_refl _) _⟩
  have Y1 : ∀ u : OBs w O (.slice A refs.length c) (.slice A2 tags.length c2), u.w.cell? ⟨w.heap.size, 0, none⟩ = some (.string oid) := fun u => (show u.w.cell? _ = _ from u.2.cells.1).trans (congrArg (fun o : Ob => some (Value.string o.id)) hO)
  have Y2 : ∀ u : OBs w O (.slice A refs.length c) (.slice A2 tags.length c2), u.w.cell? ⟨w.heap.size, 1, none⟩ = some (.int .i64 k) := fun u => (show u.w.cell? _ = _ from u.2.cells.2.1).trans (congrArg (fun o : Ob => some (Value.int .i64 o.kind)) hO)
  have Y3 : ∀ u : OBs w O (.slice A refs.length c) (.slice A2 tags.length c2), u.w.cell? ⟨w.heap.size, 4, none⟩ = some (.slice A refs.length c) := fun u => u.2.cells.2.2.2.2.1
  have Y4 : ∀ u : OBs w O (.slice A refs.length c) (.slice A2 tags.length c2), u.w.cell? ⟨w.heap.size, 5, none⟩ = some (.slice A2 tags.length c2) := fun u => u.2.cells.2.2.2.2.2
  have YN : Nonempty (OBs w O (.slice A refs.length c) (.slice A2 tags.length c2)) := ⟨⟨_, hb0.drew⟩⟩
  rw [← hO] at HV
  have HO := hide hO
  clear hO
  refine wp_region_quietW (J := OBs w O (.slice A refs.length c) (.slice A2 tags.length c2)) OBs.w ⟨_, hb0.drew⟩ rfl (by kernel_rfl) (by kernel_rfl) ?_
  repeat (go_big_quiet_step ((first | ((with_reducible refine (HW.out _).mono ?_); rintro _ w8 ⟨rfl, b8⟩; exact ⟨rfl, OBs.go _ b8⟩) | ((with_reducible refine (HN.out _).mono ?_); rintro _ w8 ⟨rfl, b8⟩; exact ⟨rfl, OBs.go _ b8⟩) | ((with_reducible refine (HV.out _).mono ?_); rintro _ w8 ⟨rfl, b8⟩; exact ⟨rfl, OBs.go _ b8⟩) | ((with_reducible refine (HL.out _).mono ?_); rintro _ w8 ⟨rfl, rfl⟩; exact ⟨rfl, ⟨_, rfl⟩⟩))))
  refine wpQuiet_nil ?_
  rintro w9 ⟨u, rfl⟩
  have hm9 : OB w O (.slice A refs.length c) (.slice A2 tags.length c2) u.w := u.2
  obtain ⟨W9, hW9⟩ : ∃ W9, (u.w.alloc (.map #[] 0)).alloc (.cells #[.map (some u.w.heap.size)] 166) = W9 := ⟨_, rfl⟩
  have hq1 : MapS (u.w.alloc (.map #[] 0)) u.w.heap.size [] := mapL_made _ _
  have hq2 : MapS W9 u.w.heap.size [] := by rw [← hW9]; exact hq1.alloc _
  have hs9 : W9.heap.size = u.w.heap.size + 2 := by rw [← hW9]; simp
  have hq3 : W9.heap[u.w.heap.size + 1]? = some (.cells #[.map (some u.w.heap.size)] 166 (0, 0)) := by
    rw [← hW9]
    have := heap_alloc_new (u.w.alloc (.map #[] 0)) (.cells #[.map (some u.w.heap.size)] 166)
    simpa using this
  have hm10 : OB w O (.slice A refs.length c) (.slice A2 tags.length c2) W9 := by rw [← hW9]; exact hm9.lift (((Below.refl _ _).alloc (Nat.le_refl _) _).alloc (by simp) _)
  have hlo : w.heap.size < u.w.heap.size := lt_of_block hm9.box
  have hm11 : OB w O (.slice A refs.length c) (.slice A2 tags.length c2) (W9.alloc (.cells #[.string ⟨#[]⟩] 9)) := hm10.lift ((Below.refl _ _).alloc (Nat.le_refl _) _)
  have hwr : WrI w O (.slice A refs.length c) (.slice A2 tags.length c2) w.heap.size u.w.heap.size [] ⟨#[]⟩ (W9.alloc (.cells #[.string ⟨#[]⟩] 9)) :=
    ⟨hm11.box, blkB ((Below.refl _ _).alloc (Nat.le_refl _) _) hq3, by have := heap_alloc_new W9 (.cells #[.string ⟨#[]⟩] 9); rw [hs9] at this; exact this, ⟨[], hq2.alloc _, fun _ => rfl, Nat.le_refl _⟩, hlo, Nat.le_refl _, hm11.below⟩
  have HC := hide (containsf_any w O (.slice A refs.length c) (.slice A2 tags.length c2) w.heap.size u.w.heap.size refs _ HT.out.1 ho2 HT.out.2 hwr)
  have hO := HO.out
  have e1 : (W9.alloc (.cells #[.string ⟨#[]⟩] 9)).cell? ⟨w.heap.size, 4, none⟩ = some (.slice A refs.length c) := hm11.cells.2.2.2.2.1
  have hRF : O.kind = k := by rw [hO]
  rw [hRF] at HC
  obtain ⟨F, hF⟩ : ∃ F, refsB k [] ⟨#[]⟩ refs = F := ⟨_, rfl⟩
  rw [hF] at HC HR
  have HS9 := hide hs9
  clear YN Y1 Y2 Y3 Y4 hm9 hq1 hq2 hq3 hlo hm10 hm11 hwr hs9 hRF hO hF
  go_wp2_with fail
  rw [HS9.out]
  refine HC.out.mono ?_
  rintro _ w7 ⟨rfl, seen, last, hw7⟩
  have HW7 := hide hw7.below
  have hob := hw7.ob
  rw [HO.out] at hob
  have d1 : w7.cell? ⟨w.heap.size, 1, none⟩ = some (.int .i64 k) := cell_of_row w7 _ 1 _ _ _ hob
  have d2 : w7.cell? ⟨w.heap.size, 2, none⟩ = some (.int .i64 x) := cell_of_row w7 _ 2 _ _ _ hob
  have d3 : w7.cell? ⟨w.heap.size, 3, none⟩ = some (.int .i64 y) := cell_of_row w7 _ 3 _ _ _ hob
  have d4 : w7.cell? ⟨w.heap.size, 4, none⟩ = some (.slice A refs.length c) := cell_of_row w7 _ 4 _ _ _ hob
  clear hW9 e1 HC hw7 hob hb0
  cases F with
  | false =>
    go_wp2_with fail
    go_ret
    exact ⟨ret_bool (by rw [← HR.out]; rfl), HW7.out⟩
  | true =>
    have HR3 : Hid (tailB ⟨oid, k, x, y, refs, tags⟩ = R) := by
      have := HR.out
      rw [Bool.true_and] at this
      exact this
    unfold tailB at HR3
    simp only at HR3
    clear HR
    by_cases k1 : k = 1
    · subst k1
      by_cases hl0 : refs.length = 0
      · have hl1 : (refs.length : Int) = 0 := by omega
        have HG := hide (fun w => on_any x y w)
        have HZ : Hid (gridB x y = R) := by
          have := HR3.out
          rw [if_pos rfl, decide_eq_true hl0, Bool.true_and] at this
          exact this
        clear HR3
        go_wp2_with fail
        refine (HG.out _).mono ?_
        rintro _ w6 ⟨rfl, hb6⟩
        have HM := hide (bto HW7.out hb6)
        clear hb6
        go_wp2_with fail
        go_ret
        exact ⟨ret_bool HZ.out, HM.out⟩
      · have hl1 : ¬ (refs.length : Int) = 0 := by omega
        have HZ : Hid (false = R) := by
          have := HR3.out
          rw [if_pos rfl, decide_eq_false hl0, Bool.false_and] at this
          exact this
        clear HR3
        go_wp2_with fail
        go_ret
        exact ⟨ret_bool HZ.out, HW7.out⟩
    · by_cases k5 : k = 5
      · subst k5
        by_cases hl0 : refs.length = 3
        · have HZ : Hid (decide (x = 0 ∧ y = 0) = R) := by
            have := HR3.out
            rw [if_neg (by omega), if_pos rfl, decide_eq_true hl0, Bool.true_and] at this
            exact this
          clear HR3
          have hl1 : (refs.length : Int) = 3 := by omega
          go_wp2_with fail
          all_goals go_ret
          all_goals refine ⟨ret_bool ?_, HW7.out⟩
          all_goals rw [← HZ.out]
          all_goals first | exact (decide_eq_true (by omega)).symm | exact (decide_eq_false (by omega)).symm
        · have hl1 : ¬ (refs.length : Int) = 3 := by omega
          have HZ : Hid (false = R) := by
            have := HR3.out
            rw [if_neg (by omega), if_pos rfl, decide_eq_false hl0, Bool.false_and] at this
            exact this
          clear HR3
          go_wp2_with fail
          go_ret
          exact ⟨ret_bool HZ.out, HW7.out⟩
      · have HZ : Hid (decide (x = 0 ∧ y = 0) = R) := by
          have := HR3.out
          rw [if_neg k1, if_neg k5] at this
          exact this
        clear HR3
        go_wp2_with fail
        all_goals go_ret
        all_goals refine ⟨ret_bool ?_, HW7.out⟩
        all_goals rw [← HZ.out]
        all_goals first | exact (decide_eq_true (by omega)).symm | exact (decide_eq_false (by omega)).symm

/-- object.Valid. -/
theorem ovalid_any (o : Ob) (rv tv : Value) (w : World) (hr : StS w rv o.refs) (ht : TgS w tv o.tags) (ho : okO o) :
    Calls Tryz.prog 28 #[.agg (obV o rv tv)] w fun e w' => e = .returned (.bool (obB o)) ∧ Below w.heap.size w w' := by
  by_cases h : o.kind < 1 ∨ 5 < o.kind
  · have e : obB o = false := by unfold obB headB; rw [decide_eq_false (by omega)]; simp
    rw [e]
    exact ovalid_kind o rv tv w hr ht ho h
  · have h1 : 1 ≤ o.kind := by omega
    have h5 : o.kind ≤ 5 := by omega
    have ek : decide (1 ≤ o.kind ∧ o.kind ≤ 5) = true := decide_eq_true ⟨h1, h5⟩
    cases hn : name o.id.data.toList with
    | false =>
      have e : obB o = false := by unfold obB headB; rw [hn]; simp
      rw [e]
      exact ovalid_name o rv tv w hr ht ho h1 h5 hn
    | true =>
      cases hv : tagsB o.tags with
      | false =>
        have e : obB o = false := by unfold obB headB; rw [hv]; simp
        rw [e]
        exact ovalid_tags o rv tv w hr ht ho h1 h5 hn hv
      | true =>
        by_cases hz : leastK o.kind ≤ o.refs.length
        · by_cases hm : o.refs.length ≤ 2000
          · have e : obB o = (refsB o.kind [] ⟨#[]⟩ o.refs && tailB o) := by unfold obB headB; rw [hn, hv, ek, decide_eq_true hz, decide_eq_true hm]; rfl
            rw [e]
            exact ovalid_good o rv tv w hr ht ho h1 h5 hn hv hz hm
          · have e : obB o = false := by unfold obB headB; rw [decide_eq_false hm]; simp
            rw [e]
            exact ovalid_many o rv tv w hr ht ho h1 h5 hn hv hz (by omega)
        · have e : obB o = false := by unfold obB headB; rw [decide_eq_false hz]; simp
          rw [e]
          exact ovalid_less o rv tv w hr ht ho h1 h5 hn hv (by omega)
end Go.Proofs.YtfkgjbdeicggaaaGreat
