/-
  The lexer's tokens: the closure that gives a byte's class, and the function that makes the iterator, walked.
-/
import Derived.Test.YtoodmhlefaepaaaGreatLexI
import Derived.Laws.EntriesVeiled
namespace Go.Proofs.YtoodmhlefaepaaaGreat
open Go.RowKit Go.Proofs.PlLex

/-- The class of the byte at a place; 0 behind the end. -/
def clsAt (s : ByteArray) (i : Nat) : Int := if h : i < s.size then clsB s[i] else 0
theorem clsAt_in (s : ByteArray) (i : Nat) (h : i < s.size) : clsAt s i = clsB s[i] := dif_pos h
theorem clsAt_out (s : ByteArray) (i : Nat) (h : ¬ i < s.size) : clsAt s i = 0 := dif_neg h
theorem clsAt_bounds (s : ByteArray) (i : Nat) : 0 ≤ clsAt s i ∧ clsAt s i ≤ 7 := by
  unfold clsAt
  split
  · exact cls_bounds _
  · omega

/-- What the two boxes hold that the closures capture. -/
structure Boxes (s : ByteArray) (bt bc : Nat) (w : World) : Prop where
  text : w.heap[bt]? = some (.cells #[.string s] 9 (0, 0))
  cls : w.heap[bc]? = some (.cells clsArr 117 (0, 0))
theorem Boxes.tcell {s : ByteArray} {bt bc : Nat} {w : World} (h : Boxes s bt bc w) : w.cell? ⟨bt, 0, none⟩ = some (.string s) := by
  simp [World.cell?, h.text]
theorem Boxes.ccell {s : ByteArray} {bt bc : Nat} {w : World} (h : Boxes s bt bc w) (c : UInt8) : w.cell? ⟨bc, c.toNat, none⟩ = some (.int .u8 (clsB c)) := by
  rw [cell_of_row w bc c.toNat clsArr _ _ h.cls, clsArr_at]; rfl

set_option maxRecDepth 100000 in
set_option maxHeartbeats 1000000 in
theorem at_any (s : ByteArray) (i bt bc : Nat) (w : World) (h : Boxes s bt bc w) :
    Calls Tryz.prog 69 #[.int .i64 (i : Int), .pointer (some ⟨bt, 0, none⟩), .pointer (some ⟨bc, 0, none⟩)] w fun e w' => e = .returned (.int .u8 (clsAt s i)) ∧ w = w' := by
  have h1 := h.tcell
  by_cases hlt : i < s.size
  · have h2 := h.ccell s[i]
    have HR := hide (clsAt_in s i hlt)
    have hb : s[i].toNat < 256 := s[i].toNat_lt
    have hb2 : (s[i].toNat : Int) < 256 := by omega
    clear h
    go_enter Tryz.func69, Tryz.ntmps69
    go_wp2
    go_ret
    exact ⟨ret_int (by rw [HR.out]), rfl⟩
  · have HR := hide (clsAt_out s i hlt)
    clear h
    go_enter Tryz.func69, Tryz.ntmps69
    go_wp2
    go_ret
    exact ⟨ret_int (by rw [HR.out]), rfl⟩

/-- The closure's value; what the iterator's two boxes hold. -/
def atFn (bt bc : Nat) : Value := .func (.func 69) #[] #[.pointer (some ⟨bt, 0, none⟩), .pointer (some ⟨bc, 0, none⟩)]
structure Iter (s : ByteArray) (bt bc ba : Nat) (w : World) : Prop where
  boxes : Boxes s bt bc w
  fn : w.heap[ba]? = some (.cells #[atFn bt bc] 119 (0, 0))
theorem Iter.fcell {s : ByteArray} {bt bc ba : Nat} {w : World} (h : Iter s bt bc ba w) : w.cell? ⟨ba, 0, none⟩ = some (atFn bt bc) := by
  simp [World.cell?, h.fn]
def iterFn (bt ba : Nat) : Value := .func (.func 70) #[] #[.pointer (some ⟨bt, 0, none⟩), .pointer (some ⟨ba, 0, none⟩)]

def TokensPost (s : ByteArray) (w : World) (e : Ending) (w' : World) : Prop :=
  ∃ bt bc ba, e = .returned (iterFn bt ba) ∧ Iter s bt bc ba w' ∧ w.heap.size ≤ bt ∧ w.heap.size ≤ bc ∧ w.heap.size ≤ ba ∧ Below w.heap.size w w'

set_option maxRecDepth 100000 in
set_option maxHeartbeats 1000000 in
theorem tokens_any (s : ByteArray) (w : World) :
    Calls Tryz.prog 40 #[.string s] w (TokensPost s w) := by
  go_enter Tryz.func40, Tryz.ntmps40
  go_wp2_with fail
  refine (classes_any _).mono ?_
  rintro e w1 ⟨rfl, hb⟩
  have HB := hide hb
  clear hb
  go_wp2_with (refine wpList_store_row rfl 117 (.tmp 3) (.tmp 5) rfl w1.heap.size clsArr rfl rfl 117 zeros (heap_alloc_new w1 _) (by rw [clsArr_size]; exact info_classes) (by rw [clsArr_size]; simp [zeros]) clsArr_one ?_; rw [World.setRow_alloc_new])
  go_ret
  have hbt : w.heap.size < w1.heap.size := by
    have := HB.out.size
    simp at this
    omega
  refine ⟨w.heap.size, w1.heap.size, w1.heap.size + 1, rfl, ⟨⟨?_, ?_⟩, ?_⟩, Nat.le_refl _, by omega, by omega, ?_⟩
  · rw [Below.heap_alloc _ _ _ (by simp; omega), Below.heap_alloc _ _ _ (by omega), HB.out.block _ (by simp)]
    exact heap_alloc_new w _
  · rw [Below.heap_alloc _ _ _ (by simp)]
    exact heap_alloc_new w1 _
  · have := heap_alloc_new (w1.alloc (.cells clsArr 117)) (.cells #[atFn w.heap.size w1.heap.size] 119)
    rwa [World.size_alloc] at this
  · exact ((((Below.refl w.heap.size w).alloc (Nat.le_refl _) _).trans (HB.out.mono (by simp))).alloc (by omega) _).alloc (by simp; omega) _
