/-
  The sweep, walked: its items laid out.
-/
import Derived.Test.YtfkgjbdeicggaaaGreatTopD
import Derived.Test.YtfkgjbdeicggaaaGreatGeoG
import Derived.Laws.OwnMore
import Derived.OwnWalk
namespace Go.Proofs.YtfkgjbdeicggaaaGreat
open Go.RowKit Go.Proofs.PlGeom Go.Proofs.PlTop

/-- Segments in memory. -/
def SgO (W : World) (g o : Nat) (l : List Sg) : Prop := ∀ (i : Nat) s, l[i]? = some s → W.cell? ⟨g, o + i * 4, none⟩ = some (.int .i64 s.a.x) ∧ W.cell? ⟨g, o + i * 4 + 1, none⟩ = some (.int .i64 s.a.y) ∧ W.cell? ⟨g, o + i * 4 + 2, none⟩ = some (.int .i64 s.b.x) ∧ W.cell? ⟨g, o + i * 4 + 3, none⟩ = some (.int .i64 s.b.y)
def SgS (W : World) (v : Value) (l : List Sg) : Prop := ∃ A c, v = .slice A l.length c ∧ (l = [] ∨ ∃ g o, A = some ⟨g, o, none⟩ ∧ g < W.heap.size ∧ SgO W g o l)
theorem SgO.below {W W' : World} {g o : Nat} {l : List Sg} (h : SgO W g o l) (hg : g < W.heap.size) (hb : Below W.heap.size W W') : SgO W' g o l := fun i s hs => by
  obtain ⟨h1, h2, h3, h4⟩ := h i s hs
  exact ⟨(hb.cell (p := ⟨g, _, none⟩) hg).trans h1, (hb.cell (p := ⟨g, _, none⟩) hg).trans h2, (hb.cell (p := ⟨g, _, none⟩) hg).trans h3, (hb.cell (p := ⟨g, _, none⟩) hg).trans h4⟩
theorem SgS.below {W W' : World} {v : Value} {l : List Sg} (h : SgS W v l) (hb : Below W.heap.size W W') : SgS W' v l := by
  obtain ⟨A, c, hv, h⟩ := h
  refine ⟨A, c, hv, ?_⟩
  rcases h with h | ⟨g, o, hA, hg, hp⟩
  · exact .inl h
  · exact .inr ⟨g, o, hA, Nat.lt_of_lt_of_le hg hb.size, hp.below hg hb⟩
def it0 : It := ⟨0, ⟨⟨0, 0⟩, ⟨0, 0⟩⟩⟩
theorem enc_it0 : encI it0 = [.int .i64 0, .int .i64 0, .int .i64 0, .int .i64 0, .int .i64 0, .int .i64 0, .int .i64 0, .int .i64 0, .int .i64 0] := rfl
theorem flat_it0 (n : Nat) : (List.replicate n it0).flatMap encI = List.replicate (n * 9) (.int .i64 0) := by
  induction n with
  | zero => rfl
  | succ n ih =>
    rw [List.replicate_succ, List.flatMap_cons, ih, enc_it0, Nat.succ_mul, Nat.add_comm, ← List.replicate_append_replicate]
    rfl
theorem itemsL_app (k : Nat) (l m : List Sg) : itemsL k (l ++ m) = itemsL k l ++ itemsL (k + l.length) m := by
  induction l generalizing k with
  | nil => simp [itemsL]
  | cons s l ih => simp only [List.cons_append, itemsL, ih, List.length_cons]; rw [show k + 1 + l.length = k + (l.length + 1) by omega]
theorem itemsL_len (k : Nat) (l : List Sg) : (itemsL k l).length = l.length := by
  induction l generalizing k with
  | nil => rfl
  | cons s l ih => simp [itemsL, ih]
/-- The items that are laid out up to k. -/
def laidI (l : List Sg) (k : Nat) : List It := itemsL 0 (l.take k) ++ List.replicate (l.length - k) it0
theorem laidI_zero (l : List Sg) : laidI l 0 = List.replicate l.length it0 := by simp [laidI, itemsL]
theorem laidI_zero_n {l : List Sg} {n : Nat} (h : l.length = n) : laidI l 0 = List.replicate n it0 := by rw [← h]; exact laidI_zero l
theorem laidI_all (l : List Sg) : laidI l l.length = itemsL 0 l := by simp [laidI]
theorem laidI_len {l : List Sg} {k : Nat} (hk : k ≤ l.length) : (laidI l k).length = l.length := by
  unfold laidI
  rw [List.length_append, itemsL_len, List.length_take, List.length_replicate]
  omega
theorem laidI_at {l : List Sg} {k : Nat} (hk : k < l.length) : (laidI l k)[k]? = some it0 := by
  unfold laidI
  have hl : (itemsL 0 (l.take k)).length = k := by rw [itemsL_len, List.length_take]; omega
  rw [List.getElem?_append_right (by omega), hl, Nat.sub_self, List.getElem?_replicate, if_pos (by omega)]
theorem laidI_set {l : List Sg} {k : Nat} {s : Sg} (hs : l[k]? = some s) : (laidI l k).set k ⟨k, s⟩ = laidI l (k + 1) := by
  have hk : k < l.length := (List.getElem?_eq_some_iff.1 hs).1
  unfold laidI
  have hl : (itemsL 0 (l.take k)).length = k := by rw [itemsL_len, List.length_take]; omega
  rw [List.set_append_right _ _ (by omega), hl, Nat.sub_self, List.take_add_one, hs]
  rw [show l.length - k = (l.length - (k + 1)) + 1 by omega, List.replicate_succ, List.set_cons_zero]
  have : (l.take k).length = k := by rw [List.length_take]; omega
  simp only [Option.toList_some, itemsL_app, itemsL, this, Nat.zero_add, List.append_assoc, List.singleton_append]
theorem info_item : (Tryz.prog.info? 135).map (fun i => (i.zero, i.size, i.bytes)) = some (some (.agg #[.int .i64 0, .int .i64 0, .int .i64 0, .int .i64 0, .int .i64 0, .int .i64 0, .int .i64 0, .int .i64 0, .int .i64 0]), 9, 72) := by kernel_rfl
theorem info_parts3 {P : Program} {t : TypeId} {z : Option Value} {n m : Nat} (h : (P.info? t).map (fun i => (i.zero, i.size, i.bytes)) = some (z, n, m)) : ∃ i, P.info? t = some i ∧ i.zero = z ∧ i.size = n ∧ i.bytes = m := by
  obtain ⟨i, hi, he⟩ := Option.map_eq_some_iff.1 h
  simp only [Prod.mk.injEq] at he
  exact ⟨i, hi, he.1, he.2.1, he.2.2⟩
theorem made_items (n : Nat) : (madeCells (Value.agg #[.int .i64 0, .int .i64 0, .int .i64 0, .int .i64 0, .int .i64 0, .int .i64 0, .int .i64 0, .int .i64 0, .int .i64 0]).cells (n * 9)).toList = (List.replicate n it0).flatMap encI := by
  rw [flat_it0, List.eq_replicate_iff]
  refine ⟨by simp [madeCells], fun b hb => ?_⟩
  unfold madeCells at hb
  rw [Array.toList_map, List.mem_map] at hb
  obtain ⟨i, _, rfl⟩ := hb
  have hm : i % 9 < 9 := Nat.mod_lt _ (by decide)
  show (#[Value.int .i64 0, .int .i64 0, .int .i64 0, .int .i64 0, .int .i64 0, .int .i64 0, .int .i64 0, .int .i64 0, .int .i64 0] : Array Value)[i % 9]! = _
  rcases (by omega : i % 9 = 0 ∨ i % 9 = 1 ∨ i % 9 = 2 ∨ i % 9 = 3 ∨ i % 9 = 4 ∨ i % 9 = 5 ∨ i % 9 = 6 ∨ i % 9 = 7 ∨ i % 9 = 8) with h | h | h | h | h | h | h | h | h <;> rw [h] <;> rfl
/-- While the items are laid out: the row of items, the segment in its box. -/
structure LyI (w : World) (B g n bx : Nat) (s : Sg) (M : List It) (W : World) : Prop where
  row : W.ownsRow B 135 9 (.slice (some ⟨g, 0, none⟩) n n) n (M.flatMap encI)
  box : W.heap[bx]? = some (.cells #[.int .i64 s.a.x, .int .i64 s.a.y, .int .i64 s.b.x, .int .i64 s.b.y] 68 (0, 0))
  below : Below w.heap.size w W
  ne : bx ≠ g
  ge : w.heap.size ≤ g
theorem LyI.step {w : World} {B g n bx : Nat} {s : Sg} {M : List It} {W W' : World} (h : LyI w B g n bx s M W) (hg : Below W.heap.size W W') : LyI w B g n bx s M W' :=
  ⟨own_keep h.row hg, (hg.block bx (Array.getElem?_eq_some_iff.1 h.box).1).trans h.box, h.below.trans (hg.mono h.below.size), h.ne, h.ge⟩
theorem LyI.put {w : World} {B g n bx : Nat} {s : Sg} {M : List It} {W : World} (h : LyI w B g n bx s M W) {i : Nat} (hi : i < M.length) (x : It) : LyI w B g n bx s (M.set i x) (put9 W g i x) := by
  obtain ⟨p1, p2⟩ := put9_own h.row hi x
  have hge := h.ge
  exact ⟨p1, (p2.block bx (Array.getElem?_eq_some_iff.1 h.box).1 (fun e => by cases e; exact h.ne rfl)).trans h.box, ⟨p2.os.trans h.below.os, p2.tape.trans h.below.tape, p2.output.trans h.below.output, Nat.le_trans h.below.size p2.size, fun j hj => (p2.block j (Nat.lt_of_lt_of_le hj h.below.size) (fun e => by cases e; omega)).trans (h.below.block j hj)⟩, h.ne, hge⟩
theorem LyI.cells {w : World} {B g n bx : Nat} {s : Sg} {M : List It} {W : World} (h : LyI w B g n bx s M W) : W.cell? ⟨bx, 0, none⟩ = some (.int .i64 s.a.x) ∧ W.cell? ⟨bx, 1, none⟩ = some (.int .i64 s.a.y) ∧ W.cell? ⟨bx, 2, none⟩ = some (.int .i64 s.b.x) ∧ W.cell? ⟨bx, 3, none⟩ = some (.int .i64 s.b.y) :=
  ⟨cell_of_row W bx 0 _ _ _ h.box, cell_of_row W bx 1 _ _ _ h.box, cell_of_row W bx 2 _ _ _ h.box, cell_of_row W bx 3 _ _ _ h.box⟩
end Go.Proofs.YtfkgjbdeicggaaaGreat
