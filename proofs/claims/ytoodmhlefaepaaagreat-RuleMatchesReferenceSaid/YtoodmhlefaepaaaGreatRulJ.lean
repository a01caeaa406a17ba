/-
  How a rule is written: the builder, with what it leaves as it was.
-/
import Derived.Test.YtoodmhlefaepaaaGreatRulI
import Derived.Test.YtoodmhlefaepaaaGreatRulE
import Derived.Test.YtoodmhlefaepaaaGreatLexJ
import Derived.Deep.RegionHeld3
namespace Go.Proofs.YtoodmhlefaepaaaGreat
open Go.RowKit Go.Proofs.PlLex Go.Proofs.PlRule

/-- Blocks that are neither b nor rows of bytes stay. -/
def Stays (b : Nat) (w w' : World) : Prop := ∀ i, i < w.heap.size → i ≠ b → (∀ cur, w.heap[i]? ≠ some (.cells cur 5 (0, 0))) → w'.heap[i]? = w.heap[i]?
theorem check_more (B b : Nat) (bs : List Value) (w : World) (h : IsB B b bs w) :
    Calls Tryz.prog 65 #[.pointer (some ⟨b, 0, none⟩)] w fun e w' => e = .returned (.tuple #[]) ∧ (BAt B b bs w' ∧ Below B w w') ∧ ∀ i, i < w.heap.size → i ≠ b → w'.heap[i]? = w.heap[i]? := by
  rcases h with h | h
  · refine (check_fresh b w h.cell0 h.shape h.frozen0).mono ?_
    rintro e w' ⟨rfl, rfl⟩
    exact ⟨rfl, ⟨h.used _, (Below.refl B w).setCell (p := ⟨b, 0, none⟩) h.1 _⟩, fun i hi hn => (set_grown w b 0 _).block i hi (fun e => by cases e; exact hn rfl)⟩
  · refine (check_used b w h.cell0).mono ?_
    rintro e w' ⟨rfl, rfl⟩
    exact ⟨rfl, ⟨h, Below.refl B _⟩, fun _ _ _ => rfl⟩
set_option maxRecDepth 100000 in
set_option maxHeartbeats 4000000 in
theorem writeString_more (B b : Nat) (bs : List Value) (s : ByteArray) (w : World) (h : IsB B b bs w) (hlen : bs.length + s.size ≤ 140737488355328) (hBw : B ≤ w.heap.size) :
    Calls Tryz.prog 34 #[.pointer (some ⟨b, 0, none⟩), .string s] w fun e w' => e = .returned (.tuple #[.int .i64 s.size, .nilIface]) ∧ (BAt B b (bs ++ Lib.strCells s) w' ∧ Below B w w') ∧ Stays b w w' := by
  obtain ⟨i0, hi, hz0, hz1, hz2⟩ := info_parts info_byte
  go_enter Tryz.func34, Tryz.ntmps34
  go_wp2_with (go_at_call 65; refine (check_more B b bs _ h).mono ?_)
  rintro e w1 ⟨rfl, ⟨h1, hb1⟩, hst1⟩
  have HS1 := hst1
  clear hst1
  obtain ⟨hB, v, hbk, hown, hne⟩ := h1
  have c0 : w1.cell? ⟨b, 0, none⟩ = some (.pointer (some ⟨b, 0, none⟩)) := by rw [Lib.cell_of_heap hbk]; rfl
  have c1 : w1.cell? ⟨b, 1, none⟩ = some v := by rw [Lib.cell_of_heap hbk]; rfl
  have HS := hide HS1
  clear HS1
  go_wp2_with (at_builtin; refine Lib.wpList_append_own_string _ rfl _ _ 54 9 rfl B 5 i0 Tryz.underlying54 Tryz.underlying9 hi hz0 hz1 hz2 _ _ _ rfl hown s rfl ?c3 ?c4 ?c5 ?_)
  case c3 => unfold maxLen; omega
  case c4 => omega
  case c5 => have := hb1.size; omega
  intro v' w2 hown' hgrow _
  have hlt : b < w1.heap.size := by
    rcases Nat.lt_or_ge b w1.heap.size with h' | h'
    · exact h'
    · simp [Array.getElem?_eq_none h'] at hbk
  have hb2 : w2.heap[b]? = some (.cells #[.pointer (some ⟨b, 0, none⟩), v] 56 (0, 0)) := by
    rw [hgrow.block b hlt (fun e => hne e.symm)]
    exact hbk
  have d0 : w2.cell? ⟨b, 0, none⟩ = some (.pointer (some ⟨b, 0, none⟩)) := by rw [Lib.cell_of_heap hb2]; rfl
  have d1 : w2.cell? ⟨b, 1, none⟩ = some v := by rw [Lib.cell_of_heap hb2]; rfl
  have f1 : w2.frozen? ⟨b, 1, none⟩ = false := Lib.frozen_of_heap hb2 1
  obtain ⟨ao, n', cap, rfl⟩ : ∃ ao n' cap, v' = .slice ao n' cap := by
    rcases hown'.2 with ⟨hv, _⟩ | ⟨g, cap, cur, hv, _⟩
    · exact ⟨_, _, _, hv⟩
    · exact ⟨_, _, _, hv⟩
  go_wp2
  go_ret2
  refine ⟨rfl, ⟨?_, ?_⟩, ?_⟩
  · exact Lib.BuilderAt.put (T := 56) (e := 5) hB hb2 (bs' := bs ++ Lib.strCells s) (by simpa [Lib.strCells_length] using hown') (by decide)
  · exact (hb1.grown hgrow (by have := hb1.size; omega) (fun k hk => (hown.lt k hk).1)).setCell (p := ⟨b, 1, none⟩) hB _
  · intro i hi hn hcur
    have hi1 : i < w1.heap.size := Nat.lt_of_lt_of_le hi hb1.size
    have e1 := HS.out i hi hn
    refine ((set_grown w2 b 1 _).block i (Nat.lt_of_lt_of_le hi1 hgrow.size) (fun e => by cases e; exact hn rfl)).trans ((hgrow.block i hi1 (fun e => ?_)).trans e1)
    obtain ⟨cur, hc⟩ := own_objs hown e.symm
    exact hcur cur (by rw [← e1]; exact hc)
theorem wsm (B : Nat) (l : L) (s : ByteArray) (w : World) (h : Bld B l w) (hl : l.length + s.size ≤ 10000000) (hB : B ≤ w.heap.size) :
    Calls Tryz.prog 34 #[.pointer (some ⟨B, 0, none⟩), .string s] w fun e w' => e = .returned (.tuple #[.int .i64 s.size, .nilIface]) ∧ Bld B (l ++ s.data.toList) w' ∧ Below B w w' ∧ Stays B w w' := by
  refine (writeString_more B B (Lib.byteCells l) s w h (by rw [byteCells_len]; omega) hB).mono ?_
  rintro e w' ⟨rfl, ⟨h1, h2⟩, h3⟩
  exact ⟨rfl, .inr (by rw [byteCells_app, ← strCells_eq]; exact h1), h2, h3⟩
end Go.Proofs.YtoodmhlefaepaaaGreat
