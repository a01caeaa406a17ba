/-
  The memory of the index: nodes, rows of pointers to nodes; a part of a row that the library sorts.
-/
import Derived.Test.YtfkgjbdeicggaaaGreatTopJ
import Derived.Test.YtfkgjbdeicggaaaGreatPlainAll
namespace Go.Proofs.YtfkgjbdeicggaaaGreat
open Go.RowKit Go.Proofs.PlLex Go.Proofs.PlNet Go.Proofs.PlMap Go.Proofs.PlGeom Go.Proofs.PlTop

/-- The cells of a node. -/
def ndC (b : Bx) (id : BA) (parts : Value) : Array Value := #[.int .i64 b.x0, .int .i64 b.y0, .int .i64 b.x1, .int .i64 b.y1, .string id, parts]
def ndP (x : Nd) : Value := .pointer (some ⟨x.g, 0, none⟩)
/-- A node of the tree, d parts deep, none of whose blocks is one of X. -/
def NodeAt (W : World) (X : Nat → Prop) : Nat → Nat → Bx → List Lf → Prop
  | 0, g, bx, ls => ¬ X g ∧ okX bx ∧ ∃ id, ls = [(bx, id)] ∧ W.heap[g]? = some (.cells (ndC bx id (.slice none 0 0)) 155 (0, 0))
  | d + 1, g, bx, ls => ¬ X g ∧ okX bx ∧ ∃ (p c : Nat) (ps : List Nd), W.heap[g]? = some (.cells (ndC bx ⟨#[]⟩ (.slice (some ⟨p, 0, none⟩) ps.length c)) 155 (0, 0)) ∧ ¬ X p ∧ p < W.heap.size ∧ ps ≠ [] ∧ (∀ (i : Nat) x, ps[i]? = some x → W.cell? ⟨p, i, none⟩ = some (ndP x)) ∧ (∀ x ∈ ps, NodeAt W X d x.g x.bx x.ls) ∧ ls = leavesN ps ∧ ∀ y ∈ ls, within y.1 bx
theorem NodeAt.kept {W W' : World} {X : Nat → Prop} {row : Option Nat} (hg : W.grownBy W' row) (hr : ∀ r, row = some r → X r) {d g : Nat} {bx : Bx} {ls : List Lf} (h : NodeAt W X d g bx ls) : NodeAt W' X d g bx ls := by
  have hb : ∀ {b : Nat} {o : Obj}, ¬ X b → W.heap[b]? = some o → W'.heap[b]? = some o := fun {b o} hx ho => (hg.block b (Array.getElem?_eq_some_iff.1 ho).1 (fun e => hx (hr b e.symm))).trans ho
  induction d generalizing g bx ls with
  | zero =>
    obtain ⟨h1, h2, id, h3, h4⟩ := h
    exact ⟨h1, h2, id, h3, hb h1 h4⟩
  | succ d ih =>
    obtain ⟨h1, h2, p, c, ps, h3, h4, h5, h6, h7, h8, h9⟩ := h
    refine ⟨h1, h2, p, c, ps, hb h1 h3, h4, Nat.lt_of_lt_of_le h5 hg.size, h6, fun i x hi => ?_, fun x hx => ih (h8 x hx), h9⟩
    have e := hg.block p h5 (fun e => h4 (hr p e.symm))
    exact (World.cell?_of_block (a := ⟨p, i, none⟩) e).trans (h7 i x hi)
theorem NodeAt.more {W : World} {X Y : Nat → Prop} (hXY : ∀ b, b < W.heap.size → Y b → X b) {d g : Nat} {bx : Bx} {ls : List Lf} (h : NodeAt W X d g bx ls) : NodeAt W Y d g bx ls := by
  induction d generalizing g bx ls with
  | zero =>
    obtain ⟨h1, h2, id, h3, h4⟩ := h
    exact ⟨fun hy => h1 (hXY g (lt_of_block h4) hy), h2, id, h3, h4⟩
  | succ d ih =>
    obtain ⟨h1, h2, p, c, ps, h3, h4, h5, h6, h7, h8, h9⟩ := h
    exact ⟨fun hy => h1 (hXY g (lt_of_block h3) hy), h2, p, c, ps, h3, fun hy => h4 (hXY p h5 hy), h5, h6, h7, fun x hx => ih (h8 x hx), h9⟩
theorem NodeAt.ok {W : World} {X : Nat → Prop} {d g : Nat} {bx : Bx} {ls : List Lf} (h : NodeAt W X d g bx ls) : okX bx := by
  cases d with
  | zero => exact h.2.1
  | succ d => exact h.2.1
theorem NodeAt.cells {W : World} {X : Nat → Prop} {d g : Nat} {bx : Bx} {ls : List Lf} (h : NodeAt W X d g bx ls) : ∃ id pv, W.heap[g]? = some (.cells (ndC bx id pv) 155 (0, 0)) ∧ isSl pv := by
  cases d with
  | zero =>
    obtain ⟨_, _, id, _, h4⟩ := h
    exact ⟨id, _, h4, _, _, _, rfl⟩
  | succ d =>
    obtain ⟨_, _, p, c, ps, h3, _⟩ := h
    exact ⟨_, _, h3, _, _, _, rfl⟩
theorem NodeAt.within {W : World} {X : Nat → Prop} {d g : Nat} {bx : Bx} {ls : List Lf} (h : NodeAt W X d g bx ls) : ∀ y ∈ ls, PlTop.within y.1 bx := by
  cases d with
  | zero =>
    obtain ⟨_, _, id, h3, _⟩ := h
    rw [h3]
    intro y hy
    simp at hy
    rw [hy]
    exact within_refl _
  | succ d =>
    obtain ⟨_, _, p, c, ps, _, _, _, _, _, _, _, h9⟩ := h
    exact h9
/-- Nodes, each of depth d. -/
def NodesAt (W : World) (X : Nat → Prop) (d : Nat) (L : List Nd) : Prop := ∀ x ∈ L, NodeAt W X d x.g x.bx x.ls
theorem NodesAt.kept {W W' : World} {X : Nat → Prop} {row : Option Nat} {d : Nat} {L : List Nd} (h : NodesAt W X d L) (hg : W.grownBy W' row) (hr : ∀ r, row = some r → X r) : NodesAt W' X d L := fun x hx => (h x hx).kept hg hr
theorem NodesAt.more {W : World} {X Y : Nat → Prop} {d : Nat} {L : List Nd} (h : NodesAt W X d L) (hXY : ∀ b, b < W.heap.size → Y b → X b) : NodesAt W Y d L := fun x hx => (h x hx).more hXY
theorem NodesAt.perm {W : World} {X : Nat → Prop} {d : Nat} {L M : List Nd} (h : NodesAt W X d L) (hp : M.Perm L) : NodesAt W X d M := fun x hx => h x (hp.mem_iff.1 hx)
theorem NodesAt.app {W : World} {X : Nat → Prop} {d : Nat} {L M : List Nd} (h : NodesAt W X d L) (k : NodesAt W X d M) : NodesAt W X d (L ++ M) := fun x hx => (List.mem_append.1 hx).elim (h x) (k x)
theorem box6n {W : World} {b : Nat} {a0 a1 a2 a3 a4 a5 : Value} {t : TypeId} (h : W.heap[b]? = some (.cells #[a0, a1, a2, a3, a4, a5] t (0, 0))) : W.cell? ⟨b, 0, none⟩ = some a0 ∧ W.cell? ⟨b, 1, none⟩ = some a1 ∧ W.cell? ⟨b, 2, none⟩ = some a2 ∧ W.cell? ⟨b, 3, none⟩ = some a3 ∧ W.cell? ⟨b, 4, none⟩ = some a4 ∧ W.cell? ⟨b, 5, none⟩ = some a5 :=
  ⟨cell_of_row W _ 0 _ _ _ h, cell_of_row W _ 1 _ _ _ h, cell_of_row W _ 2 _ _ _ h, cell_of_row W _ 3 _ _ _ h, cell_of_row W _ 4 _ _ _ h, cell_of_row W _ 5 _ _ _ h⟩
section
variable {α : Type} [Inhabited α] {enc : α → Value}
/-- A part of a row of the call's own, before and behind the library's sort. -/
theorem sort_part {W : World} {B g cap o : Nat} {e : TypeId} {xs : List Value} (d : Array α) (h : W.ownsRow B e 1 (.slice (some ⟨g, 0, none⟩) xs.length cap) xs.length xs) (ho : o + d.size ≤ xs.length) (hd : subL xs o d.size = d.toList.map enc) :
    g < W.heap.size ∧ Sort.Holds enc W g o d ∧ ∀ (d' : Array α) (n : Nat) (os : Array Obj), d'.size = d.size →
      (sortWorld enc W g o n d' os).ownsRow B e 1 (.slice (some ⟨g, 0, none⟩) xs.length cap) xs.length (putS xs o (d'.toList.map enc)) ∧ W.grownBy (sortWorld enc W g o n d' os) (some g) := by
  obtain ⟨hl, h2⟩ := h
  rcases h2 with ⟨hv, _⟩ | ⟨g', cap', cur, hv, hB, hb, hc, hm, hs, ht⟩
  · cases hv
  cases hv
  rw [Nat.mul_one] at hs ht
  have hg : g < W.heap.size := (Array.getElem?_eq_some_iff.1 hb).1
  have hle : xs.length ≤ cur.size := by rw [hs]; omega
  refine ⟨hg, ?_, fun d' n os hdd => ⟨?_, ?_⟩⟩
  · intro j hj
    refine ⟨?_, by simp [World.frozen?, hb]⟩
    have h1 : (cur.toList.take xs.length)[o + j]? = xs[o + j]? := by rw [ht]
    rw [List.getElem?_take_of_lt (by omega)] at h1
    simp only [World.cell?, hb]
    simp only [Option.isSome_none, Bool.false_eq_true, if_false]
    rw [← Array.getElem?_toList, h1, ← subL_get xs hj, hd, List.getElem?_map, Array.getElem?_toList, Array.getElem?_eq_getElem hj, getElem!_pos d j hj]
    rfl
  · have hb2 : (sortWorld enc W g o n d' os).heap[g]? = some (.cells (Sort.putCells enc o d' cur) e (0, 0)) := by
      unfold sortWorld Sort.putRow
      rw [Sort.heap_grow_old _ _ (by simpa [Sort.mapBlock, Sort.ahead] using hg)]
      simp [Sort.mapBlock, Sort.ahead, Array.getElem?_modify, hb, Sort.onCells]
    have hf : (putS xs o (d'.toList.map enc)).length = xs.length := putS_len xs o _ (by rw [List.length_map, Array.length_toList, hdd]; exact ho)
    refine ⟨by rw [hf, Nat.mul_one], .inr ⟨g, cap, _, rfl, hB, hb2, hc, hm, by simp [Sort.putCells, hs], ?_⟩⟩
    rw [Nat.mul_one]
    apply List.ext_getElem?
    intro j
    by_cases hj : j < xs.length
    · rw [List.getElem?_take_of_lt hj, Array.getElem?_toList]
      unfold Sort.putCells putS
      rw [Array.getElem?_mapIdx, Array.getElem?_eq_getElem (show j < cur.size by omega)]
      simp only [Option.map_some]
      have hold : (cur.toList.take xs.length)[j]? = xs[j]? := by rw [ht]
      rw [List.getElem?_take_of_lt hj, Array.getElem?_toList, Array.getElem?_eq_getElem (show j < cur.size by omega)] at hold
      by_cases c1 : o ≤ j
      · by_cases c2 : j < o + d'.size
        · rw [if_pos ⟨c1, c2⟩, List.getElem?_append_right (by rw [List.length_take]; omega), List.length_take, Nat.min_eq_left (by omega), List.getElem?_append_left (by rw [List.length_map, Array.length_toList]; omega), List.getElem?_map, Array.getElem?_toList, Array.getElem?_eq_getElem (show j - o < d'.size by omega), getElem!_pos d' (j - o) (by omega)]
          rfl
        · rw [if_neg (fun c => c2 c.2), List.getElem?_append_right (by rw [List.length_take]; omega), List.length_take, Nat.min_eq_left (by omega), List.getElem?_append_right (by rw [List.length_map, Array.length_toList]; omega), List.length_map, Array.length_toList, List.getElem?_drop, show o + d'.size + (j - o - d'.size) = j by omega]
          exact hold
      · rw [if_neg (fun c => c1 c.1), List.getElem?_append_left (by rw [List.length_take]; omega), List.getElem?_take_of_lt (by omega)]
        exact hold
    · rw [List.getElem?_take_eq_none (by omega), List.getElem?_eq_none (by rw [hf]; omega)]
  · refine ⟨rfl, rfl, rfl, ?_, fun i hi hne => ?_⟩
    · unfold sortWorld Sort.putRow
      simp [Sort.grow, Sort.mapBlock, Sort.ahead]
    · unfold sortWorld Sort.putRow
      rw [Sort.heap_grow_old _ _ (by simpa [Sort.mapBlock, Sort.ahead] using hi)]
      have : g ≠ i := fun e => hne (by rw [e])
      simp [Sort.mapBlock, Sort.ahead, Array.getElem?_modify, this]
end
theorem putS_map {α β : Type} (f : α → β) (l : List α) (o : Nat) (c : List α) : (putS l o c).map f = putS (l.map f) o (c.map f) := by
  unfold putS
  rw [List.map_append, List.map_append, List.map_take, List.map_drop, List.length_map]
theorem subL_map {α β : Type} (f : α → β) (l : List α) (o m : Nat) : (subL l o m).map f = subL (l.map f) o m := by
  unfold subL
  rw [List.map_take, List.map_drop]
/-- How packing compares nodes: by their boxes' middles. -/
def keyX (b : Bx) : Int := b.x0 + b.x1
def keyY (b : Bx) : Int := b.y0 + b.y1
def cfY (x y : Nd) : Int := cmpI (keyY x.bx) (keyY y.bx)
def cfX (x y : Nd) : Int := if cmpI (keyX x.bx) (keyX y.bx) = 0 then cmpI (keyY x.bx) (keyY y.bx) else cmpI (keyX x.bx) (keyX y.bx)
theorem cfY_lt (x y : Nd) : cfY x y < 0 ↔ keyY x.bx < keyY y.bx := by
  unfold cfY
  rcases cmpI_cases (keyY x.bx) (keyY y.bx) with ⟨h1, h2⟩ | ⟨h1, h2⟩ | ⟨h1, h2⟩ <;> rw [h2] <;> simp <;> omega
theorem cfX_lt (x y : Nd) : cfX x y < 0 ↔ keyX x.bx < keyX y.bx ∨ (keyX x.bx = keyX y.bx ∧ keyY x.bx < keyY y.bx) := by
  unfold cfX
  have hY := cfY_lt x y
  unfold cfY at hY
  rcases cmpI_cases (keyX x.bx) (keyX y.bx) with ⟨h1, h2⟩ | ⟨h1, h2⟩ | ⟨h1, h2⟩
  · rw [h2, if_neg (by omega)]; omega
  · rw [h2]; simp; omega
  · rw [h2]; simp; omega
theorem swoN {β : Type} (f : β → Nd) (cf : Nd → Nd → Int) (hcf : cf = cfX ∨ cf = cfY) : Sort.SWO (ltOf fun x y : β => cf (f x) (f y)) := by
  rcases hcf with rfl | rfl
  · refine ⟨fun x => ?_, fun x y z h1 h2 => ?_, fun x y z h1 h2 => ?_⟩
    · unfold ltOf
      rw [decide_eq_false_iff_not, cfX_lt]
      omega
    · unfold ltOf at *
      rw [decide_eq_true_eq, cfX_lt] at *
      omega
    · unfold ltOf at *
      rw [decide_eq_false_iff_not, cfX_lt] at *
      omega
  · refine ⟨fun x => ?_, fun x y z h1 h2 => ?_, fun x y z h1 h2 => ?_⟩
    · unfold ltOf
      rw [decide_eq_false_iff_not, cfY_lt]
      omega
    · unfold ltOf at *
      rw [decide_eq_true_eq, cfY_lt] at *
      omega
    · unfold ltOf at *
      rw [decide_eq_false_iff_not, cfY_lt] at *
      omega
end Go.Proofs.YtfkgjbdeicggaaaGreat
