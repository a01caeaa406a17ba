/-
  Objects without references, walked: object.Valid, for the law's example.
-/
import Derived.Test.YtjniicmhndflpaaNamI
import Derived.BigQuiet
import Derived.Carry
import Derived.Laws.EntriesVeiled
import Derived.Deep.QuietTactic
import Derived.Sort.MapsRangeIn
namespace Go.Proofs.Ytjniicmhndflpaa
open Go.RowKit Go.Proofs.PlLex Go.Proofs.PlName

attribute [local go_sem] run_makeMap
theorem wp_region_quietW {P : Program} {id : Nat} {Q : Exit → Act → World → Prop} {a : Act} {w : World} {l : List Oper} {J : Type} (W : J → World) (u : J) (hu : w.drew = W u) (hm : P.follows .mixedOrders = true) (hB : Region.lexB .any l.toArray = true)
    (h : wpQuiet P l.toArray (fun w' => ∃ u, w' = W u) (fun a' => ∀ w', (∃ u, w' = W u) → Q .normal a' w') l a) : (Code.region id l.toArray true).wp P Q a w :=
  wp_region_quiet (C := fun w' => ∃ u, w' = W u) hm hB ⟨u, hu⟩ (by simpa using h)

set_option maxRecDepth 100000 in
set_option maxHeartbeats 4000000 in
theorem word_node (w : World) : Calls Try.prog 46 #[.int .i64 1] w fun e w' => e = .returned (.string ⟨#[110, 111, 100, 101]⟩) ∧ Below w.heap.size w w' := by
  go_enter Try.func46, Try.ntmps46
  go_wp2_with fail
  exact bodyPost_ret (v := .string ⟨#[110, 111, 100, 101]⟩) (by simp [results, Try.f46, go_sem]) rfl ⟨rfl, (Below.refl _ _).alloc (Nat.le_refl _) _⟩
set_option maxRecDepth 100000 in
set_option maxHeartbeats 4000000 in
theorem least_node (w : World) : Calls Try.prog 47 #[.int .i64 1] w fun e w' => e = .returned (.int .i64 0) ∧ w = w' := by
  have x0 : ∀ w : World, (Instr.index 93 (.agg #[.int .i64 0, .int .i64 0, .int .i64 2, .int .i64 3, .int .i64 1, .int .i64 3]) (.int .i64 1)).run Try.prog w = .ok (.int .i64 0) w := fun _ => by kernel_rfl
  go_enter Try.func47, Try.ntmps47
  go_wp2_with fail
  go_ret
  exact ⟨rfl, rfl⟩
set_option maxRecDepth 100000 in
set_option maxHeartbeats 4000000 in
theorem indexf_nil (f : Value) (w : World) : Calls Try.prog 41 #[.slice none 0 0, f] w fun e w' => e = .returned (.int .i64 (-1)) ∧ w = w' := by
  go_enter Try.func41, Try.ntmps41
  go_wp2_with fail
  go_loop [8] (fun i => i = .int .i64 0) (fun _ => 0)
  case atStart => exact rfl
  case round =>
    subst hrel
    go_wp2_with fail
    go_ret
    exact ⟨rfl, rfl⟩
set_option maxRecDepth 100000 in
set_option maxHeartbeats 4000000 in
theorem containsf_nil (f : Value) (w : World) : Calls Try.prog 30 #[.slice none 0 0, f] w fun e w' => e = .returned (.bool false) ∧ w = w' := by
  have HI := hide (fun w => indexf_nil f w)
  go_enter Try.func30, Try.ntmps30
  go_wp2_with fail
  refine (HI.out _).mono ?_
  rintro _ w2 ⟨rfl, rfl⟩
  go_wp2_with fail
  go_ret
  exact ⟨rfl, rfl⟩
set_option maxRecDepth 100000 in
set_option maxHeartbeats 4000000 in
theorem on_zero (w : World) : Calls Try.prog 49 #[.agg #[.int .i64 0, .int .i64 0]] w fun e w' => e = .returned (.bool true) ∧ Below w.heap.size w w' := by
  go_enter Try.func49, Try.ntmps49
  go_wp2_with fail
  go_ret
  exact ⟨rfl, (Below.refl _ _).alloc (Nat.le_refl _) _⟩

/-- A node without references, in a box. -/
structure OB (w : World) (id : ByteArray) (tv : Value) (wx : World) : Prop where
  box : wx.heap[w.heap.size]? = some (.cells #[.string id, .int .i64 1, .int .i64 0, .int .i64 0, .slice none 0 0, tv] 46 (0, 0))
  below : Below w.heap.size w wx
theorem OB.lift {w wx wy : World} {id : ByteArray} {tv : Value} (h : OB w id tv wx) (hb : Below wx.heap.size wx wy) : OB w id tv wy := ⟨blkB hb h.box, bto h.below hb⟩
theorem OB.drew {w wx : World} {id : ByteArray} {tv : Value} (h : OB w id tv wx) : OB w id tv wx.drew := ⟨h.box, h.below.drew⟩
theorem OB.cells {w wx : World} {id : ByteArray} {tv : Value} (h : OB w id tv wx) : wx.cell? ⟨w.heap.size, 0, none⟩ = some (.string id) ∧ wx.cell? ⟨w.heap.size, 1, none⟩ = some (.int .i64 1) ∧ wx.cell? ⟨w.heap.size, 2, none⟩ = some (.int .i64 0) ∧ wx.cell? ⟨w.heap.size, 3, none⟩ = some (.int .i64 0) ∧ wx.cell? ⟨w.heap.size, 4, none⟩ = some (.slice none 0 0) ∧ wx.cell? ⟨w.heap.size, 5, none⟩ = some tv :=
  ⟨cell_of_row wx _ 0 _ _ _ h.box, cell_of_row wx _ 1 _ _ _ h.box, cell_of_row wx _ 2 _ _ _ h.box, cell_of_row wx _ 3 _ _ _ h.box, cell_of_row wx _ 4 _ _ _ h.box, cell_of_row wx _ 5 _ _ _ h.box⟩
def OBs (w : World) (id : ByteArray) (tv : Value) : Type := {wx : World // OB w id tv wx}
def OBs.w {w : World} {id : ByteArray} {tv : Value} (u : OBs w id tv) : World := u.1
theorem OBs.go {w : World} {id : ByteArray} {tv : Value} (u : OBs w id tv) {w8 : World} (hb : Below u.w.heap.size u.w w8) : ∃ u' : OBs w id tv, w8 = u'.w := ⟨⟨w8, u.2.lift hb⟩, rfl⟩

set_option maxRecDepth 100000 in
set_option maxHeartbeats 8000000 in
theorem onode (id : ByteArray) (l : List Tg) (tv : Value) (w : World) (ht : TgS w tv l) (hid : id.size ≤ 100000) (hn : name id.data.toList = true) (hv : tagsB l = true) (hl : l.length ≤ 100000) (hs : ∀ t ∈ l, t.k.size ≤ 100000 ∧ t.v.size ≤ 100000) :
    Calls Try.prog 40 #[.agg #[.string id, .int .i64 1, .int .i64 0, .int .i64 0, .slice none 0 0, tv]] w fun e w' => e = .returned (.bool true) ∧ Below w.heap.size w w' := by
  have HN := hide (fun w => pname_any id w (Nat.le_trans hid (by unfold maxLen; omega)))
  rw [hn] at HN
  have HV := hide (fun (u : OBs w id tv) => tvalid_any l tv u.w (ht.below u.2.below) hl (fun t ht => ⟨Nat.le_trans (hs t ht).1 (by unfold maxLen; omega), Nat.le_trans (hs t ht).2 (by unfold maxLen; omega)⟩))
  rw [hv] at HV
  have HW := hide word_node
  have HL := hide least_node
  have HC := hide containsf_nil
  have HO := hide on_zero
  obtain ⟨A, c, rfl, _⟩ := ht
  clear hn hv hs
  go_enter Try.func40, Try.ntmps40
  go_wp2_with fail
  have hb0 : OB w id (.slice A l.length c) (w.alloc (.cells #[.string id, .int .i64 1, .int .i64 0, .int .i64 0, .slice none 0 0, .slice A l.length c] 46)) := ⟨heap_alloc_new _ _, (Below.refl _ _).alloc (Nat.le_refl _) _⟩
  have Y1 : ∀ u : OBs w id (.slice A l.length c), u.w.cell? ⟨w.heap.size, 0, none⟩ = some (.string id) := fun u => u.2.cells.1
  have Y2 : ∀ u : OBs w id (.slice A l.length c), u.w.cell? ⟨w.heap.size, 1, none⟩ = some (.int .i64 1) := fun u => u.2.cells.2.1
  have Y3 : ∀ u : OBs w id (.slice A l.length c), u.w.cell? ⟨w.heap.size, 4, none⟩ = some (.slice none 0 0) := fun u => u.2.cells.2.2.2.2.1
  have Y4 : ∀ u : OBs w id (.slice A l.length c), u.w.cell? ⟨w.heap.size, 5, none⟩ = some (.slice A l.length c) := fun u => u.2.cells.2.2.2.2.2
  have YN : Nonempty (OBs w id (.slice A l.length c)) := ⟨⟨_, hb0.drew⟩⟩
  refine wp_region_quietW (J := OBs w id (.slice A l.length c)) OBs.w ⟨_, hb0.drew⟩ rfl (by kernel_rfl) (by kernel_rfl) ?_
  repeat (go_big_quiet_step ((first | ((with_reducible refine (HW.out _).mono ?_); rintro _ w8 ⟨rfl, b8⟩; exact ⟨rfl, OBs.go _ b8⟩) | ((with_reducible refine (HN.out _).mono ?_); rintro _ w8 ⟨rfl, b8⟩; exact ⟨rfl, OBs.go _ b8⟩) | ((with_reducible refine (HV.out _).mono ?_); rintro _ w8 ⟨rfl, b8⟩; exact ⟨rfl, OBs.go _ b8⟩) | ((with_reducible refine (HL.out _).mono ?_); rintro _ w8 ⟨rfl, rfl⟩; exact ⟨rfl, ⟨_, rfl⟩⟩))))
  refine wpQuiet_nil ?_
  rintro w9 ⟨u, rfl⟩
  have hm9 : OB w id (.slice A l.length c) u.w := u.2
  obtain ⟨W9, hW9⟩ : ∃ W9, (u.w.alloc (.map #[] 0)).alloc (.cells #[.map (some u.w.heap.size)] 87) = W9 := ⟨_, rfl⟩
  have hm10 : OB w id (.slice A l.length c) W9 := by rw [← hW9]; exact hm9.lift (((Below.refl _ _).alloc (Nat.le_refl _) _).alloc (by simp) _)
  obtain ⟨d0, d1, d2, d3, d4, d5⟩ := hm10.cells
  clear YN Y1 Y2 Y3 Y4
  have hm11 : OB w id (.slice A l.length c) (W9.alloc (.cells #[.string ⟨#[]⟩] 9)) := hm10.lift ((Below.refl _ _).alloc (Nat.le_refl _) _)
  have e1 := hm11.cells.2.1
  have e2 := hm11.cells.2.2.1
  have e3 := hm11.cells.2.2.2.1
  have e4 := hm11.cells.2.2.2.2.1
  have HM9 := hide hm11
  clear hm9 hm10 hm11
  go_wp2_with fail
  obtain ⟨W8, hW8⟩ : ∃ W8, W9.alloc (.cells #[.string ⟨#[]⟩] 9) = W8 := ⟨_, rfl⟩
  rw [hW8] at e1 e2 e3 e4 HM9 ⊢
  clear hW8 hW9 d0 d1 d2 d3 d4 d5 HN HV HW HL hb0
  refine (HC.out _ _).mono ?_
  rintro _ w7 ⟨rfl, hw7⟩
  obtain rfl : W8 = w7 := hw7
  clear HC
  go_wp2_with fail
  refine (HO.out _).mono ?_
  rintro _ w6 ⟨rfl, hb6⟩
  have HM := hide (bto HM9.out.below hb6)
  clear e1 e2 e3 e4 HM9 HO hb6
  go_wp2_with fail
  go_ret
  exact ⟨rfl, HM.out⟩
end Go.Proofs.Ytjniicmhndflpaa
