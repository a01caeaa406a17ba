/-
  atlas.Valid, at the two objects of the law's example.
-/
import Derived.Test.YtjniicmhndflpaaNamJ
import Derived.LoopN
namespace Go.Proofs.Ytjniicmhndflpaa
open Go.RowKit Go.Proofs.PlLex Go.Proofs.PlName

def sN : ByteArray := ⟨#[110]⟩
def sO : ByteArray := ⟨#[111]⟩
def objs (tv : Value) : Array Value := #[.string sN, .int .i64 1, .int .i64 0, .int .i64 0, .slice none 0 0, tv, .string sO, .int .i64 1, .int .i64 0, .int .i64 0, .slice none 0 0, .slice none 0 0]
/-- Two objects: "n" with tags, "o" without. -/
structure Two (g : Nat) (tv : Value) (w : World) : Prop where
  blk : w.heap[g]? = some (.cells (objs tv) 46 (0, 0))
theorem Two.below {g : Nat} {tv : Value} {w w' : World} (h : Two g tv w) (hb : Below w.heap.size w w') : Two g tv w' := ⟨blkB hb h.blk⟩
theorem Two.cells {g : Nat} {tv : Value} {w : World} (h : Two g tv w) : (w.cell? ⟨g, 0, none⟩ = some (.string sN) ∧ w.cell? ⟨g, 1, none⟩ = some (.int .i64 1) ∧ w.cell? ⟨g, 2, none⟩ = some (.int .i64 0) ∧ w.cell? ⟨g, 3, none⟩ = some (.int .i64 0) ∧ w.cell? ⟨g, 4, none⟩ = some (.slice none 0 0) ∧ w.cell? ⟨g, 5, none⟩ = some tv) ∧
    (w.cell? ⟨g, 6, none⟩ = some (.string sO) ∧ w.cell? ⟨g, 7, none⟩ = some (.int .i64 1) ∧ w.cell? ⟨g, 8, none⟩ = some (.int .i64 0) ∧ w.cell? ⟨g, 9, none⟩ = some (.int .i64 0) ∧ w.cell? ⟨g, 10, none⟩ = some (.slice none 0 0) ∧ w.cell? ⟨g, 11, none⟩ = some (.slice none 0 0)) :=
  ⟨⟨cell_of_row w _ 0 _ _ _ h.blk, cell_of_row w _ 1 _ _ _ h.blk, cell_of_row w _ 2 _ _ _ h.blk, cell_of_row w _ 3 _ _ _ h.blk, cell_of_row w _ 4 _ _ _ h.blk, cell_of_row w _ 5 _ _ _ h.blk⟩,
   ⟨cell_of_row w _ 6 _ _ _ h.blk, cell_of_row w _ 7 _ _ _ h.blk, cell_of_row w _ 8 _ _ _ h.blk, cell_of_row w _ 9 _ _ _ h.blk, cell_of_row w _ 10 _ _ _ h.blk, cell_of_row w _ 11 _ _ _ h.blk⟩⟩

set_option maxRecDepth 100000 in
set_option maxHeartbeats 8000000 in
theorem avalid_two (g : Nat) (tv : Value) (l : List Tg) (w : World) (h2 : Two g tv w) (ht : TgS w tv l) (hv : tagsB l = true) (hl : l.length ≤ 100000) (hs : ∀ t ∈ l, t.k.size ≤ 100000 ∧ t.v.size ≤ 100000) :
    Calls Try.prog 29 #[.agg #[.slice (some ⟨g, 0, none⟩) 2 2]] w fun e w' => e = .returned (.bool true) ∧ Below w.heap.size w w' := by
  have HON := hide (fun w' hw' => onode sN l tv w' hw' (by decide) (by decide +kernel) hv hl hs)
  have HOO := hide (fun w' => onode sO [] (.slice none 0 0) w' ⟨none, 0, rfl, .inl rfl⟩ (by decide) (by decide +kernel) (by decide +kernel) (by decide) (by intro t ht; cases ht))
  have HT := hide ht
  have b1 : Go.Op.bytesLess sN.toList [] = false := by decide +kernel
  have b2 : ¬ sN.toList = [] := by decide +kernel
  have b44 : (sO.toList == sN.toList) = false := by decide +kernel
  have b22 : sN.toList.isEmpty = false := by decide +kernel
  have b3 : Go.Op.bytesLess sO.toList sN.toList = false := by decide +kernel
  have b4 : ¬ sO.toList = sN.toList := by decide +kernel
  obtain ⟨A, c, rfl, _⟩ := ht
  clear hv hl hs
  go_enter Try.func29, Try.ntmps29
  obtain ⟨wa, hwa⟩ : ∃ wa, w.alloc (.cells #[.slice (some ⟨g, 0, none⟩) 2 2] 29) = wa := ⟨_, rfl⟩
  have ha : Below w.heap.size w wa := by rw [← hwa]; exact (Below.refl _ _).alloc (Nat.le_refl _) _
  have hsa : wa.heap.size = w.heap.size + 1 := by rw [← hwa]; simp
  have hm : wa.heap[w.heap.size]? = some (.cells #[.slice (some ⟨g, 0, none⟩) 2 2] 29 (0, 0)) := by rw [← hwa]; exact heap_alloc_new w _
  obtain ⟨⟨d0, d1, d2, d3, d4, d5⟩, ⟨d6, d7, d8, d9, d10, d11⟩⟩ := (h2.below ha).cells
  have dm := (blk1 hm).1
  go_wp2_with fail
  refine wp_loop_rounds 3 ?_
  rw [rounds_succ]
  go_wp2_with fail
  obtain ⟨w1, hw1⟩ : ∃ w1, wa.alloc (.cells #[.string sN, .int .i64 1, .int .i64 0, .int .i64 0, .slice none 0 0, .slice A l.length c] 46) = w1 := ⟨_, rfl⟩
  rw [hw1]
  have b5 : Below wa.heap.size wa w1 := by rw [← hw1]; exact (Below.refl _ _).alloc (Nat.le_refl _) _
  have hs1 : w1.heap.size = w.heap.size + 2 := by rw [← hw1]; simp [hsa]
  have h5 : w1.heap[w.heap.size + 1]? = some (.cells #[.string sN, .int .i64 1, .int .i64 0, .int .i64 0, .slice none 0 0, .slice A l.length c] 46 (0, 0)) := by rw [← hw1, ← hsa]; exact heap_alloc_new wa _
  have HT2 := hide (HT.out.below (bto ha b5))
  clear hw1 d0 d1 d2 d3 d4 d5 d6 d7 d8 d9 d10 d11 dm
  refine (HON.out _ HT2.out).mono ?_
  rintro _ w2 ⟨rfl, b6⟩
  obtain ⟨⟨d0, d1, d2, d3, d4, d5⟩, ⟨d6, d7, d8, d9, d10, d11⟩⟩ := ((h2.below ha).below (bto b5 b6)).cells
  have e0 := cell_of_row w2 _ 0 _ _ _ (blkB b6 h5)
  have hb2 := bto (bto ha b5) b6
  have hs2 := b6.size
  clear HON HT HT2
  go_wp2_with fail
  rw [rounds_succ]
  go_wp2_with fail
  obtain ⟨w3, hw3⟩ : ∃ w3, w2.alloc (.cells #[.string sO, .int .i64 1, .int .i64 0, .int .i64 0, .slice none 0 0, .slice none 0 0] 46) = w3 := ⟨_, rfl⟩
  rw [hw3]
  have b7 : Below w2.heap.size w2 w3 := by rw [← hw3]; exact (Below.refl _ _).alloc (Nat.le_refl _) _
  have h6 : w3.heap[w2.heap.size]? = some (.cells #[.string sO, .int .i64 1, .int .i64 0, .int .i64 0, .slice none 0 0, .slice none 0 0] 46 (0, 0)) := by rw [← hw3]; exact heap_alloc_new w2 _
  clear hw3 d0 d1 d2 d3 d4 d5 d6 d7 d8 d9 d10 d11 e0
  refine (HOO.out _).mono ?_
  rintro _ w4 ⟨rfl, b8⟩
  have e1 := cell_of_row w4 _ 0 _ _ _ (blkB b8 h6)
  have hb4 := bto (bto hb2 b7) b8
  have dm := (blk1 (blkB (bto (bto (bto b5 b6) b7) b8) hm)).1
  clear HOO
  go_wp2_with fail
  rw [rounds_succ]
  go_wp2_with fail
  go_ret
  exact ⟨rfl, hb4⟩
end Go.Proofs.Ytjniicmhndflpaa
