/-
  Tags and lists of strings as arguments: how their data open, and shut again behind the call.
-/
import Derived.Test.YtjniicmhndflpaaNamR
import Derived.Deep.SlicePairs
import Derived.Deep.Slices
import Derived.SliceStrings
import Derived.ChangeMaps5
import Derived.Lib.SmallJoins
import Derived.Below
namespace Go.Proofs.Ytjniicmhndflpaa
open Go.ChangeShapes Go.WideShapes Go.Joins Go.Deep Go.Proofs.PlLex Go.Proofs.PlName Go.RowKit

theorem cells_str : Try.prog.cellsOf 9 = 1 := by kernel_rfl
theorem cells_tag : Try.prog.cellsOf 42 = 2 := by kernel_rfl
theorem trod_str_mk {H : Type} {enc : TypeId × Value → H} {P : Program} {w : World} {base : Nat} {spare : Nat → Bool} {held : Bool} {t : TypeId} {s : ByteArray} (m : Nat) (ht : P.underlying t = some .string) (hw : s.size ≤ maxLen) :
    DataW.trod enc P w base spare held (m + 1) t [.string s] = some (.lit (.string s.data.toList), []) := by
  simp [DataW.trod, ht, hw]

section
variable {H : Type} {enc : TypeId × Value → H}

theorem trod_tags_mk {W : World} {sp : Nat → Bool} {held : Bool} {b off len cap : Nat} (hl : len ≤ cap) (hm : cap ≤ maxLen) (X Y : Nat → ByteArray)
    (hc0 : ∀ i, i < cap → W.cell? ⟨b, off + i * 2, none⟩ = some (.string (X i))) (hc1 : ∀ i, i < cap → W.cell? ⟨b, off + i * 2 + 1, none⟩ = some (.string (Y i)))
    (wx : ∀ i, i < cap → (X i).size ≤ maxLen) (wy : ∀ i, i < cap → (Y i).size ≤ maxLen) (hsp : sp b = true ∨ cap = 0) :
    DataW.Trod enc Try.prog W 0 sp held 25 (.slice (some ⟨b, off, none⟩) len cap)
      (.slice ((List.range len).map fun i => .agg [.lit (.string (X i).data.toList), .lit (.string (Y i).data.toList)]) ((List.range (cap - len)).map fun j => .agg [.lit (.string (X (len + j)).data.toList), .lit (.string (Y (len + j)).data.toList)])) (MemPlace.row ⟨b, off, none⟩ (cap * 2)) := by
  cases hs : sp b with
  | true =>
    obtain ⟨n, hn⟩ := shut_slice_pairs_whole (enc := enc) (w := W) (base := 0) (spare := sp) (held := held) (b := b) (off := off) (len := len) (cap := cap) Try.underlying25 Try.underlying42 cells_tag rfl rfl cells_str cells_str (Nat.zero_le _) hl hm hs
      (fun i => .string (X i)) (fun i => .string (Y i)) (fun i => .lit (.string (X i).data.toList)) (fun i => .lit (.string (Y i).data.toList)) (fun _ => []) (fun _ => []) hc0 hc1
      (fun i hi => ⟨1, trod_str_mk 0 Try.underlying9 (wx i hi)⟩) (fun i hi => ⟨1, trod_str_mk 0 Try.underlying9 (wy i hi)⟩)
    refine ⟨n, hn.trans ?_⟩
    simp
  | false =>
    obtain rfl : cap = 0 := by
      rcases hsp with h | h
      · rw [hs] at h; cases h
      · exact h
    obtain rfl : len = 0 := by omega
    obtain ⟨n, hn⟩ := shut_slice_pairs (enc := enc) (w := W) (base := 0) (spare := sp) (held := held) (b := b) (off := off) (len := 0) (cap := 0) Try.underlying25 Try.underlying42 cells_tag rfl rfl cells_str cells_str (Nat.zero_le _) hl hm hs
      (fun i => .string (X i)) (fun i => .string (Y i)) (fun i => .lit (.string (X i).data.toList)) (fun i => .lit (.string (Y i).data.toList)) (fun _ => []) (fun _ => []) (fun i hi => by omega) (fun i hi => by omega) (fun i hi => by omega) (fun i hi => by omega)
    refine ⟨n, hn.trans ?_⟩
    simp

theorem open_tags {W : World} {v : Value} {d : DataW H} {p : List MemPlace} (h : DataW.Trod enc Try.prog W 0 (fun _ => true) true 25 v d p) (hv : ∃ a l c, v = .slice a l c) :
    ∃ r : List Tg, TgS W v r ∧ r.length ≤ maxLen ∧ ∀ W' : World, Below W.heap.size W W' → ∀ sp : Nat → Bool, (∀ q ∈ p, sp q.block = true) → DataW.Trod enc Try.prog W' 0 sp true 25 v d p := by
  obtain ⟨a0, l0, c0, rfl⟩ := hv
  obtain ⟨fuel, hf⟩ := h
  rcases open_slice_pairs Try.underlying25 Try.underlying42 cells_tag rfl rfl cells_str cells_str hf with ⟨h1, h2⟩ | ⟨a, len, cap, m, n, V0, V1, D0, D1, P0, P1, hcs, _, hl, hm, hmm, hx, hi⟩
  · simp only [Value.cells, List.cons.injEq, and_true] at h1
    simp only [Prod.mk.injEq] at h2
    obtain ⟨rfl, rfl⟩ := h2
    rw [h1]
    refine ⟨[], ⟨none, 0, rfl, .inl rfl⟩, Nat.zero_le _, fun W' _ sp _ => ?_⟩
    exact ⟨1, by simp [DataW.trod, Value.cells, Try.underlying25]⟩
  · simp only [if_true] at hmm
    subst hmm
    simp only [Value.cells, List.cons.injEq, and_true] at hcs
    rw [hcs]
    simp only [Prod.mk.injEq] at hx
    obtain ⟨rfl, rfl⟩ := hx
    have key : ∀ i, i < m → ∃ x y : ByteArray, V0 i = .string x ∧ V1 i = .string y ∧ D0 i = .lit (.string x.data.toList) ∧ D1 i = .lit (.string y.data.toList) ∧ P0 i = [] ∧ P1 i = [] ∧ x.size ≤ maxLen ∧ y.size ≤ maxLen := by
      intro i hh
      obtain ⟨_, _, h3, h4⟩ := hi i hh
      obtain ⟨x, e0, e1, wx⟩ := DataW.trod_string Try.underlying9 h3
      obtain ⟨y, e2, e3, wy⟩ := DataW.trod_string Try.underlying9 h4
      simp only [List.cons.injEq, and_true] at e0 e2
      simp only [Prod.mk.injEq] at e1 e3
      exact ⟨x, y, e0, e2, e1.1, e3.1, e1.2, e3.2, wx, wy⟩
    obtain ⟨Z, hZ⟩ := choose_lt (α := ByteArray × ByteArray) (n := m) (p := fun i z => V0 i = .string z.1 ∧ V1 i = .string z.2 ∧ D0 i = .lit (.string z.1.data.toList) ∧ D1 i = .lit (.string z.2.data.toList) ∧ P0 i = [] ∧ P1 i = [] ∧ z.1.size ≤ maxLen ∧ z.2.size ≤ maxLen)
      (fun i hh => by obtain ⟨x, y, h⟩ := key i hh; exact ⟨(x, y), h⟩)
    obtain ⟨X, hX⟩ : ∃ X : Nat → ByteArray, ∀ i, X i = (Z i).1 := ⟨fun i => (Z i).1, fun _ => rfl⟩
    obtain ⟨Y, hY⟩ : ∃ Y : Nat → ByteArray, ∀ i, Y i = (Z i).2 := ⟨fun i => (Z i).2, fun _ => rfl⟩
    simp only [← hX, ← hY] at hZ
    have hd1 : (List.range len).map (fun i => DataW.agg [D0 i, D1 i]) = (List.range len).map fun i => DataW.agg [.lit (.string (X i).data.toList), .lit (.string (Y i).data.toList)] :=
      List.map_congr_left fun i hi => by
        have := hZ i (by have := List.mem_range.1 hi; omega)
        rw [this.2.2.1, this.2.2.2.1]
    have hd2 : (List.range (m - len)).map (fun j => DataW.agg [D0 (len + j), D1 (len + j)]) = (List.range (m - len)).map fun j => DataW.agg [.lit (.string (X (len + j)).data.toList), .lit (.string (Y (len + j)).data.toList)] :=
      List.map_congr_left fun j hj => by
        have := hZ (len + j) (by have := List.mem_range.1 hj; omega)
        rw [this.2.2.1, this.2.2.2.1]
    have hp1 : (List.range m).flatMap (fun i => P0 i ++ P1 i) = [] := by
      rw [flatMap_congr_range (g := fun _ => []) (fun i hi => by rw [(hZ i hi).2.2.2.2.1, (hZ i hi).2.2.2.2.2.1]; rfl)]
      simp
    have hrl : ((List.range len).map fun i => (⟨X i, Y i⟩ : Tg)).length = len := by simp
    rw [hd1, hd2, hp1, List.append_nil]
    by_cases hm0 : m = 0
    · subst hm0
      obtain rfl : len = 0 := by omega
      refine ⟨[], ⟨some a, 0, rfl, .inl rfl⟩, Nat.zero_le _, fun W' _ sp _ => ?_⟩
      cases hs : sp a.block with
      | true =>
        obtain ⟨n, hn⟩ := shut_slice_whole_cells (enc := enc) (w := W') (base := 0) (spare := sp) (held := true) (a := a) (len := 0) (cap := 0) Try.underlying25 (Nat.zero_le _) hl hm hs (fun _ => .nil) (fun _ => []) (fun i hi => by omega)
        exact ⟨n, hn.trans (by simp [MemPlace.row])⟩
      | false =>
        obtain ⟨n, hn⟩ := shut_slice_cells (enc := enc) (w := W') (base := 0) (spare := sp) (held := true) (a := a) (len := 0) (cap := 0) Try.underlying25 (Nat.zero_le _) hl hm hs (fun _ => .nil) (fun _ => []) (fun i hi => by omega)
        exact ⟨n, hn.trans (by simp [MemPlace.row])⟩
    · have hc00 := (hi 0 (by omega)).1
      have hspot : a.spot = none := by
        have := World.cell?_spot hc00
        simpa [Addr.add] using this
      obtain ⟨b, off, sp0⟩ := a
      simp only at hspot
      subst hspot
      have hadd : ∀ i, Addr.add ⟨b, off, none⟩ i = ⟨b, off + i, none⟩ := fun i => by unfold Addr.add; split <;> simp_all
      have hc0 : ∀ i, i < m → W.cell? ⟨b, off + i * 2, none⟩ = some (.string (X i)) := fun i h => by
        have := (hi i h).1
        rw [hadd, (hZ i h).1] at this
        exact this
      have hc1 : ∀ i, i < m → W.cell? ⟨b, off + i * 2 + 1, none⟩ = some (.string (Y i)) := fun i h => by
        have := (hi i h).2.1
        rw [hadd, (hZ i h).2.1] at this
        exact this
      have hb : b < W.heap.size := cell_lt (hc0 0 (by omega))
      refine ⟨(List.range len).map fun i => (⟨X i, Y i⟩ : Tg), ⟨some ⟨b, off, none⟩, m, by rw [hrl], .inr ⟨b, off, rfl, hb, ?_⟩⟩, by rw [hrl]; omega, fun W' hW sp hsp => ?_⟩
      · intro i p hp
        have hil : i < len := by
          rcases Nat.lt_or_ge i len with h | h
          · exact h
          · rw [List.getElem?_eq_none (by rw [hrl]; exact h)] at hp; cases hp
        have e : p = ⟨X i, Y i⟩ := by simp [hil] at hp; exact hp.symm
        subst e
        exact ⟨hc0 i (by omega), hc1 i (by omega)⟩
      · refine trod_tags_mk hl hm X Y (fun i h => (hW.cell (p := ⟨b, _, none⟩) hb).trans (hc0 i h)) (fun i h => (hW.cell (p := ⟨b, _, none⟩) hb).trans (hc1 i h)) (fun i h => (hZ i h).2.2.2.2.2.2.1) (fun i h => (hZ i h).2.2.2.2.2.2.2) (.inl ?_)
        refine hsp (.cell b off) ?_
        have : 0 < m * 2 := by omega
        simp [MemPlace.row]
        omega

theorem strs_take (ss : List ByteArray) (n : Nat) (hn : n ≤ ss.length) : (strs (ss.take n) : List (DataW H)) = (List.range n).map fun i => .lit (.string (ss.getD i ByteArray.empty).data.toList) := by
  unfold strs
  apply List.ext_getElem
  · simp; omega
  · intro i h1 h2
    simp at h1 h2 ⊢
    rw [List.getElem?_eq_getElem (by omega)]
    rfl
theorem strs_drop (ss : List ByteArray) (n : Nat) (_ : n ≤ ss.length) : (strs (ss.drop n) : List (DataW H)) = (List.range (ss.length - n)).map fun j => .lit (.string (ss.getD (n + j) ByteArray.empty).data.toList) := by
  unfold strs
  apply List.ext_getElem
  · simp
  · intro i h1 h2
    simp at h1 h2 ⊢
    rw [List.getElem?_eq_getElem (by omega)]
    rfl
theorem open_strs {W : World} {v : Value} {d : DataW H} {p : List MemPlace} (h : DataW.Trod enc Try.prog W 0 (fun _ => true) true 31 v d p) (hv : ∃ a l c, v = .slice a l c) :
    ∃ L : List ByteArray, StS W v L ∧ L.length ≤ maxLen ∧ (∀ s ∈ L, s.size ≤ maxLen) ∧ ∀ W' : World, Below W.heap.size W W' → ∀ sp : Nat → Bool, (∀ q ∈ p, sp q.block = true) → DataW.Trod enc Try.prog W' 0 sp true 31 v d p := by
  obtain ⟨a0, l0, c0, rfl⟩ := hv
  obtain ⟨fuel, hf⟩ := h
  rcases open_strings Try.underlying31 Try.underlying9 cells_str hf with ⟨h1, h2⟩ | ⟨a, len, cap, ss, hcs, _, hl, hm, hz, hx, hcell, hws⟩
  · simp only [Value.cells, List.cons.injEq, and_true] at h1
    simp only [Prod.mk.injEq] at h2
    obtain ⟨rfl, rfl⟩ := h2
    rw [h1]
    refine ⟨[], ⟨none, 0, rfl, Nat.le_refl _, .inl rfl⟩, Nat.zero_le _, (fun s hs => nomatch hs), fun W' _ sp _ => ?_⟩
    exact ⟨1, by simp [DataW.trod, Value.cells, Try.underlying31]⟩
  · simp only [if_true] at hz
    simp only [Value.cells, List.cons.injEq, and_true] at hcs
    rw [hcs]
    simp only [Prod.mk.injEq] at hx
    obtain ⟨rfl, rfl⟩ := hx
    subst hz
    have hlt : (ss.take len).length = len := by rw [List.length_take]; omega
    rw [strs_take ss len hl, strs_drop ss len hl]
    by_cases hm0 : ss.length = 0
    · obtain rfl : ss = [] := List.length_eq_zero_iff.1 hm0
      obtain rfl : len = 0 := by simpa using hl
      refine ⟨[], ⟨some a, 0, rfl, Nat.le_refl _, .inl rfl⟩, Nat.zero_le _, (fun s hs => nomatch hs), fun W' _ sp _ => ?_⟩
      cases hs : sp a.block with
      | true =>
        obtain ⟨n, hn⟩ := shut_slice_whole_cells (enc := enc) (w := W') (base := 0) (spare := sp) (held := true) (a := a) (len := 0) (cap := 0) Try.underlying31 (Nat.zero_le _) hl hm hs (fun _ => .nil) (fun _ => []) (fun i hi => by omega)
        exact ⟨n, hn.trans (by simp [MemPlace.row])⟩
      | false =>
        obtain ⟨n, hn⟩ := shut_slice_cells (enc := enc) (w := W') (base := 0) (spare := sp) (held := true) (a := a) (len := 0) (cap := 0) Try.underlying31 (Nat.zero_le _) hl hm hs (fun _ => .nil) (fun _ => []) (fun i hi => by omega)
        exact ⟨n, hn.trans (by simp [MemPlace.row])⟩
    · have hc00 := hcell 0 (by omega)
      have hspot : a.spot = none := by
        have := World.cell?_spot hc00
        simpa [Addr.add] using this
      obtain ⟨b, off, sp0⟩ := a
      simp only at hspot
      subst hspot
      have hadd : ∀ i, Addr.add ⟨b, off, none⟩ i = ⟨b, off + i, none⟩ := fun i => by unfold Addr.add; split <;> simp_all
      have hc0 : ∀ i, i < ss.length → W.cell? ⟨b, off + i, none⟩ = some (.string (ss.getD i ByteArray.empty)) := fun i h => by
        have := hcell i h
        rw [hadd] at this
        exact this
      have hb : b < W.heap.size := cell_lt (hc0 0 (by omega))
      refine ⟨ss.take len, ⟨some ⟨b, off, none⟩, ss.length, by rw [hlt], by rw [hlt]; exact hl, .inr ⟨b, off, rfl, hb, ?_⟩⟩, by rw [hlt]; omega, fun s hs => hws s (List.mem_of_mem_take hs), fun W' hW sp hsp => ?_⟩
      · intro i s hi
        have hil : i < len := by
          rcases Nat.lt_or_ge i len with h | h
          · exact h
          · rw [List.getElem?_eq_none (by rw [hlt]; exact h)] at hi; cases hi
        rw [List.getElem?_take, if_pos hil] at hi
        rw [hc0 i (by omega), List.getD_eq_getElem?_getD, hi]
        rfl
      · have hsp2 : sp b = true := hsp (.cell b off) (by
          have : 0 < ss.length := by omega
          simp [MemPlace.row]
          omega)
        obtain ⟨n, hn⟩ := shut_slice_whole1 (enc := enc) (w := W') (base := 0) (spare := sp) (held := true) (b := b) (off := off) (len := len) (cap := ss.length) Try.underlying31 cells_str (Nat.zero_le _) hl hm hsp2
          (fun i => .string (ss.getD i ByteArray.empty)) (fun i => .lit (.string (ss.getD i ByteArray.empty).data.toList)) (fun _ => []) (fun i h => (hW.cell (p := ⟨b, _, none⟩) hb).trans (hc0 i h))
          (fun i h => ⟨1, trod_str_mk 0 Try.underlying9 (hws _ (by
            rw [List.getD_eq_getElem?_getD, List.getElem?_eq_getElem h]
            exact List.getElem_mem h))⟩)
        refine ⟨n, hn.trans ?_⟩
        simp
end
end Go.Proofs.Ytjniicmhndflpaa
