/-
  A row of the call's own that the library sorts; the sweep's two sorts.
-/
import Derived.Test.YtfkgjbdeicggaaaGreatTopA
import Derived.Test.YtfkgjbdeicggaaaGreatShelf
import Derived.Shelf.SlSortCmp.NoneTotal
namespace Go.Proofs.YtfkgjbdeicggaaaGreat
open Go.RowKit Go.Proofs.PlGeom Go.Proofs.PlTop

section
variable {α : Type} {enc : α → List Value} {k : Nat}
theorem flat_len (hk : ∀ x, (enc x).length = k) (l : List α) : (l.flatMap enc).length = l.length * k := by
  induction l with
  | nil => simp
  | cons x l ih => rw [List.flatMap_cons, List.length_append, ih, hk, List.length_cons, Nat.succ_mul]; omega
theorem flat_get (hk : ∀ x, (enc x).length = k) (l : List α) (i j : Nat) (hj : j < k) : (l.flatMap enc)[i * k + j]? = (l[i]?).bind (fun x => (enc x)[j]?) := by
  induction l generalizing i with
  | nil => simp
  | cons x l ih =>
    rw [List.flatMap_cons]
    cases i with
    | zero =>
      rw [Nat.zero_mul, Nat.zero_add, List.getElem?_append_left (by rw [hk]; exact hj)]
      rfl
    | succ i =>
      rw [List.getElem?_append_right (by rw [hk, Nat.succ_mul]; omega), hk, Nat.succ_mul, show i * k + k + j - k = i * k + j by omega, ih]
      simp
end
section
variable {α : Type} [Inhabited α] {enc : α → List Value} {k : Nat}
theorem flatK_eq (hk : ∀ x, (enc x).length = k) (d : Array α) : Sort.flatK enc k d = (d.toList.flatMap enc).toArray := by
  apply Array.ext_getElem?
  intro t
  rw [show ((d.toList.flatMap enc).toArray)[t]? = (d.toList.flatMap enc)[t]? from by simp only [List.getElem?_toArray]]
  by_cases ht : t < d.size * k
  · have hk0 : 0 < k := by
      rcases Nat.eq_zero_or_pos k with h | h
      · subst h; omega
      · exact h
    have hj : t % k < k := Nat.mod_lt _ hk0
    have hi : t / k < d.size := by
      rw [Nat.div_lt_iff_lt_mul hk0]; exact ht
    have e : t = (t / k) * k + t % k := by rw [Nat.mul_comm]; exact (Nat.div_add_mod t k).symm
    have h2 := flat_get hk d.toList (t / k) (t % k) hj
    rw [← e] at h2
    rw [h2, Array.getElem?_toList, Array.getElem?_eq_getElem hi]
    have h3 := Sort.get_flatK enc k d t ht
    rw [getElem!_pos _ t (by simpa using ht), getElem!_pos d _ hi] at h3
    rw [Array.getElem?_eq_getElem (by simpa using ht), h3]
    show _ = (enc d[t / k])[t % k]?
    rw [List.getElem?_eq_getElem (by rw [hk]; exact hj), getElem!_pos]
  · rw [Array.getElem?_eq_none (by rw [Sort.size_flatK]; omega), List.getElem?_eq_none (by rw [flat_len hk, Array.length_toList]; omega)]
/-- What the sort's contract asks of a row of the call's own, and what the row is behind it. -/
theorem sort_row (hk : ∀ x, (enc x).length = k) {W : World} {B g cap : Nat} {e : TypeId} (d : Array α) (h : W.ownsRow B e k (.slice (some ⟨g, 0, none⟩) d.size cap) d.size (d.toList.flatMap enc)) :
    g < W.heap.size ∧ Sort.HoldsK enc k W g 0 d ∧ ∀ (d' : Array α) (n : Nat) (os : Array Obj), d'.size = d.size →
      (sortWorldK enc k W g 0 n d' os).ownsRow B e k (.slice (some ⟨g, 0, none⟩) d.size cap) d.size (d'.toList.flatMap enc) ∧ W.grownBy (sortWorldK enc k W g 0 n d' os) (some g) := by
  obtain ⟨hl, h2⟩ := h
  rcases h2 with ⟨hv, _⟩ | ⟨g', cap', cur, hv, hB, hb, hc, hm, hs, ht⟩
  · cases hv
  cases hv
  have hg : g < W.heap.size := (Array.getElem?_eq_some_iff.1 hb).1
  have hle : d.size * k ≤ cur.size := by rw [hs]; exact Nat.mul_le_mul_right k hc
  refine ⟨hg, ?_, fun d' n os hd => ⟨?_, ?_⟩⟩
  · unfold Sort.HoldsK
    rw [flatK_eq hk]
    intro j hj
    have hj2 : j < d.size * k := by rw [List.size_toArray, hl] at hj; exact hj
    refine ⟨?_, by simp [World.frozen?, hb]⟩
    have h1 : (cur.toList.take (d.size * k))[j]? = (d.toList.flatMap enc)[j]? := by rw [ht]
    rw [List.getElem?_take_of_lt hj2] at h1
    simp only [World.cell?, hb, Nat.zero_add]
    simp only [Option.isSome_none, Bool.false_eq_true, if_false]
    rw [← Array.getElem?_toList, h1, List.getElem?_eq_getElem (by rw [hl]; exact hj2)]
    rw [getElem!_pos _ j hj]
    rfl
  · have hb2 : (sortWorldK enc k W g 0 n d' os).heap[g]? = some (.cells (Sort.putCells id 0 (d'.toList.flatMap enc).toArray cur) e (0, 0)) := by
      unfold sortWorldK Sort.putRowK
      rw [flatK_eq hk, Sort.heap_grow_old _ _ (by simpa using hg)]
      simp [Sort.putRow, Sort.mapBlock, Sort.ahead, Array.getElem?_modify, hb, Sort.onCells]
    have hf : (d'.toList.flatMap enc).length = d.size * k := by rw [flat_len hk, Array.length_toList, hd]
    refine ⟨by rw [hf], .inr ⟨g, cap, _, rfl, hB, hb2, hc, hm, by simp [Sort.putCells, hs], ?_⟩⟩
    apply List.ext_getElem?
    intro j
    by_cases hj : j < d.size * k
    · rw [List.getElem?_take_of_lt hj, Array.getElem?_toList, List.getElem?_eq_getElem (by rw [hf]; exact hj)]
      unfold Sort.putCells
      rw [Array.getElem?_mapIdx, Array.getElem?_eq_getElem (show j < cur.size by omega)]
      simp only [Option.map_some]
      rw [if_pos ⟨Nat.zero_le _, by rw [List.size_toArray, hf]; omega⟩, Nat.sub_zero, getElem!_pos _ j (by rw [List.size_toArray, hf]; exact hj)]
      rfl
    · rw [List.getElem?_take_eq_none (by omega), List.getElem?_eq_none (by rw [hf]; omega)]
  · refine ⟨rfl, rfl, rfl, ?_, fun i hi hne => ?_⟩
    · unfold sortWorldK Sort.putRowK
      simp [Sort.grow, Sort.putRow, Sort.mapBlock, Sort.ahead]
    · unfold sortWorldK Sort.putRowK
      rw [Sort.heap_grow_old _ _ (by simpa using hi)]
      have : g ≠ i := fun e => hne (by rw [e])
      simp [Sort.putRow, Sort.mapBlock, Sort.ahead, Array.getElem?_modify, this]
end
section
variable {β : Type} {ok : β → Prop}
/-- The list as one of elements of the type that holds what the order asks. -/
def subA (l : List β) (h : ∀ x ∈ l, ok x) : Array {x : β // ok x} := (l.pmap Subtype.mk h).toArray
theorem subA_val (l : List β) (h : ∀ x ∈ l, ok x) : (subA l h).toList.map Subtype.val = l := by
  unfold subA
  rw [List.map_pmap]
  simp
theorem subA_size (l : List β) (h : ∀ x ∈ l, ok x) : (subA l h).size = l.length := by
  have := congrArg List.length (subA_val l h)
  rw [List.length_map, Array.length_toList] at this
  exact this
theorem sub_flat (enc : β → List Value) (d : Array {x : β // ok x}) : d.toList.flatMap (fun x => enc x.1) = (d.toList.map Subtype.val).flatMap enc := by
  rw [List.flatMap_map]
end
section
variable {β : Type} {ok : β → Prop} [Inhabited {x : β // ok x}]
theorem perm_all {d d' : Array {x : β // ok x}} (h : Sort.PermIn 0 d.size d d') : d'.size = d.size ∧ (d'.toList.map Subtype.val).Perm (d.toList.map Subtype.val) := by
  obtain ⟨h1, _, h3⟩ := h
  refine ⟨h1, ?_⟩
  have e1 : d'.extract 0 d.size = d' := by rw [← h1]; simp
  have e2 : d.extract 0 d.size = d := by simp
  rw [e1, e2] at h3
  exact h3.map _
theorem sorted_all {d' : Array {x : β // ok x}} {n : Nat} (hn : d'.size = n) {cf : β → β → Int} (h : Sort.SortedIn (ltOf fun x y : {x : β // ok x} => cf x.1 y.1) 0 n d') : (d'.toList.map Subtype.val).Pairwise (fun a b => ¬ cf b a < 0) := by
  rw [List.pairwise_map, List.pairwise_iff_getElem]
  intro i j hi hj hij
  have := h i j (Nat.zero_le _) hij (by rw [Array.length_toList] at hj; omega)
  rw [getElem!_pos d' j (by simpa using hj), getElem!_pos d' i (by simpa using hi)] at this
  unfold ltOf at this
  simpa using this
end
theorem cfI_lt (x y : It) : cfI x y < 0 ↔ x.xl < y.xl ∨ (x.xl = y.xl ∧ x.ix < y.ix) := by
  unfold cfI
  rcases cmpI_cases x.xl y.xl with ⟨h1, h2⟩ | ⟨h1, h2⟩ | ⟨h1, h2⟩ <;> rw [h2] <;> simp <;> omega
theorem cfM_lt (x y : Mt) : cfM x y < 0 ↔ ltM x y := by
  unfold cfM ltM
  split <;> omega
instance : Inhabited {i : It // i.ix ≤ 1000000} := ⟨⟨⟨0, ⟨⟨0, 0⟩, ⟨0, 0⟩⟩⟩, Nat.zero_le _⟩⟩
instance : Inhabited {m : Mt // m.a ≤ 1000000 ∧ m.b ≤ 1000000} := ⟨⟨⟨0, 0, 0⟩, Nat.zero_le _, Nat.zero_le _⟩⟩
theorem swoI : Sort.SWO (ltOf fun x y : {i : It // i.ix ≤ 1000000} => cfI x.1 y.1) := by
  refine ⟨fun x => ?_, fun x y z h1 h2 => ?_, fun x y z h1 h2 => ?_⟩
  · unfold ltOf
    rw [decide_eq_false_iff_not, cfI_lt]
    omega
  · unfold ltOf at *
    rw [decide_eq_true_eq, cfI_lt] at *
    omega
  · unfold ltOf at *
    rw [decide_eq_false_iff_not, cfI_lt] at *
    omega
theorem swoM : Sort.SWO (ltOf fun x y : {m : Mt // m.a ≤ 1000000 ∧ m.b ≤ 1000000} => cfM x.1 y.1) := by
  refine ⟨fun x => ?_, fun x y z h1 h2 => ?_, fun x y z h1 h2 => ?_⟩
  · unfold ltOf
    rw [decide_eq_false_iff_not, cfM_lt]
    unfold ltM
    omega
  · unfold ltOf at *
    rw [decide_eq_true_eq, cfM_lt] at *
    unfold ltM at *
    omega
  · unfold ltOf at *
    rw [decide_eq_false_iff_not, cfM_lt] at *
    unfold ltM at *
    omega
theorem sort_items (B : Nat) (l : List It) (v : Value) (W : World) (h : W.ownsRow B 135 9 v l.length (l.flatMap encI)) (hix : ∀ i ∈ l, i.ix ≤ 1000000) (hlen : l.length ≤ 1000000) :
    Calls Tryz.prog 60 #[v, .func (Fn.func 61) #[] #[]] W fun e w' => e = .returned (.tuple #[]) ∧ ∃ l' : List It, l'.Perm l ∧ l'.Pairwise (fun a b => ¬ cfI b a < 0) ∧ w'.ownsRow B 135 9 v l'.length (l'.flatMap encI) ∧ W.grownBy w' v.ownBlock := by
  rcases h.2 with ⟨rfl, h0⟩ | ⟨g, cap, cur, rfl, hB, hb, _⟩
  · have hl : l = [] := List.length_eq_zero_iff.1 h0
    subst hl
    refine (AnyF.slices_SortFunc_none Tryz.sortItems none 0 (.func (Fn.func 61) #[] #[]) W).mono ?_
    rintro e w' ⟨rfl, rfl⟩
    exact ⟨rfl, [], List.Perm.refl _, List.Pairwise.nil, h, ⟨rfl, rfl, rfl, Nat.le_refl _, fun _ _ _ => rfl⟩⟩
  · have hsz := subA_size l hix
    have hfl : (subA l hix).toList.flatMap (fun x : {i : It // i.ix ≤ 1000000} => encI x.1) = l.flatMap encI := by rw [sub_flat, subA_val]
    rw [← hsz, ← hfl] at h
    obtain ⟨hg, hH, hw⟩ := sort_row (enc := fun x : {i : It // i.ix ≤ 1000000} => encI x.1) (k := 9) (fun _ => rfl) (subA l hix) h
    have eg : ∀ args w, (callFunc 61 args).run Tryz.prog w = .ok (.enter 61 args) w := enters_of Tryz.func61 (by kernel_rfl) rfl
    have hcon := AnyQ.slices_SortFunc Tryz.sortItems 9 Tryz.isAgg135 Tryz.sizeOf135 (fun x : {i : It // i.ix ≤ 1000000} => encI x.1) (fun _ => rfl)
      (fun x v hv => by simp only [encI, List.mem_cons, List.not_mem_nil, or_false] at hv; rcases hv with rfl | rfl | rfl | rfl | rfl | rfl | rfl | rfl | rfl <;> rfl)
      (fun x y => cfI x.1 y.1) swoI 61 #[] g 0 cap (subA l hix) W eg (fun _ _ _ _ x y => less_items x.1 y.1 _ x.2 y.2) hH hg (by rw [hsz]; omega)
    rw [hsz] at hcon
    refine hcon.mono ?_
    rintro e w' ⟨rfl, d', n, os, hp, hs, rfl⟩
    rw [← hsz] at hp hs
    obtain ⟨hd, hpm⟩ := perm_all hp
    obtain ⟨ho, hgr⟩ := hw d' n os hd
    have hl' : (d'.toList.map Subtype.val).length = l.length := by rw [List.length_map, Array.length_toList, hd, hsz]
    refine ⟨rfl, d'.toList.map Subtype.val, by rw [subA_val] at hpm; exact hpm, sorted_all hd hs, ?_, hgr⟩
    rw [sub_flat, hsz] at ho
    rw [hl']
    exact ho
theorem sort_meets (B : Nat) (l : List Mt) (v : Value) (W : World) (h : W.ownsRow B 73 3 v l.length (l.flatMap encM)) (hix : ∀ i ∈ l, i.a ≤ 1000000 ∧ i.b ≤ 1000000) (hlen : l.length ≤ 1000000000) :
    Calls Tryz.prog 67 #[v, .func (Fn.func 68) #[] #[]] W fun e w' => e = .returned (.tuple #[]) ∧ ∃ l' : List Mt, l'.Perm l ∧ l'.Pairwise (fun a b => ¬ cfM b a < 0) ∧ w'.ownsRow B 73 3 v l'.length (l'.flatMap encM) ∧ W.grownBy w' v.ownBlock := by
  rcases h.2 with ⟨rfl, h0⟩ | ⟨g, cap, cur, rfl, hB, hb, _⟩
  · have hl : l = [] := List.length_eq_zero_iff.1 h0
    subst hl
    refine (AnyF.slices_SortFunc_none Tryz.sortMeets none 0 (.func (Fn.func 68) #[] #[]) W).mono ?_
    rintro e w' ⟨rfl, rfl⟩
    exact ⟨rfl, [], List.Perm.refl _, List.Pairwise.nil, h, ⟨rfl, rfl, rfl, Nat.le_refl _, fun _ _ _ => rfl⟩⟩
  · have hsz := subA_size l hix
    have hfl : (subA l hix).toList.flatMap (fun x : {m : Mt // m.a ≤ 1000000 ∧ m.b ≤ 1000000} => encM x.1) = l.flatMap encM := by rw [sub_flat, subA_val]
    rw [← hsz, ← hfl] at h
    obtain ⟨hg, hH, hw⟩ := sort_row (enc := fun x : {m : Mt // m.a ≤ 1000000 ∧ m.b ≤ 1000000} => encM x.1) (k := 3) (fun _ => rfl) (subA l hix) h
    have eg : ∀ args w, (callFunc 68 args).run Tryz.prog w = .ok (.enter 68 args) w := enters_of Tryz.func68 (by kernel_rfl) rfl
    have hcon := AnyQ.slices_SortFunc Tryz.sortMeets 3 Tryz.isAgg73 Tryz.sizeOf73 (fun x : {m : Mt // m.a ≤ 1000000 ∧ m.b ≤ 1000000} => encM x.1) (fun _ => rfl)
      (fun x v hv => by simp only [encM, List.mem_cons, List.not_mem_nil, or_false] at hv; rcases hv with rfl | rfl | rfl <;> rfl)
      (fun x y => cfM x.1 y.1) swoM 68 #[] g 0 cap (subA l hix) W eg (fun _ _ _ _ x y => less_meets x.1 y.1 _ x.2 y.2) hH hg (by rw [hsz]; omega)
    rw [hsz] at hcon
    refine hcon.mono ?_
    rintro e w' ⟨rfl, d', n, os, hp, hs, rfl⟩
    rw [← hsz] at hp hs
    obtain ⟨hd, hpm⟩ := perm_all hp
    obtain ⟨ho, hgr⟩ := hw d' n os hd
    have hl' : (d'.toList.map Subtype.val).length = l.length := by rw [List.length_map, Array.length_toList, hd, hsz]
    refine ⟨rfl, d'.toList.map Subtype.val, by rw [subA_val] at hpm; exact hpm, sorted_all hd hs, ?_, hgr⟩
    rw [sub_flat, hsz] at ho
    rw [hl']
    exact ho
end Go.Proofs.YtfkgjbdeicggaaaGreat
