/-
  Slices of points as arguments: how their data open, and shut again behind the call.
-/
import Derived.Test.YtmklnioedeailaaGeoK
import Derived.Test.YtmklnioedeailaaRngL
import Derived.Deep.SlicePairs
namespace Go.Proofs.Ytmklnioedeailaa
open Go.ChangeShapes Go.WideShapes Go.Joins Go.Deep Go.Proofs.PlGeom Go.Proofs.PlRing Go.RowKit

section
variable {H : Type} {enc : TypeId × Value → H}

theorem trod_pts_mk {W : World} {sp : Nat → Bool} {held : Bool} {b off len cap : Nat} (hl : len ≤ cap) (hm : cap ≤ maxLen) (X Y : Nat → Int)
    (hc0 : ∀ i, i < cap → W.cell? ⟨b, off + i * 2, none⟩ = some (.int .i64 (X i))) (hc1 : ∀ i, i < cap → W.cell? ⟨b, off + i * 2 + 1, none⟩ = some (.int .i64 (Y i)))
    (wx : ∀ i, i < cap → (Lit.int .i64 (X i)).wf = true) (wy : ∀ i, i < cap → (Lit.int .i64 (Y i)).wf = true) (hsp : sp b = true ∨ cap = 0) :
    DataW.Trod enc Try.prog W 0 sp held 22 (.slice (some ⟨b, off, none⟩) len cap)
      (.slice ((List.range len).map fun i => .agg [.lit (.int .i64 (X i)), .lit (.int .i64 (Y i))]) ((List.range (cap - len)).map fun j => .agg [.lit (.int .i64 (X (len + j))), .lit (.int .i64 (Y (len + j)))])) (MemPlace.row ⟨b, off, none⟩ (cap * 2)) := by
  cases hs : sp b with
  | true =>
    obtain ⟨n, hn⟩ := shut_slice_pairs_whole (enc := enc) (w := W) (base := 0) (spare := sp) (held := held) (b := b) (off := off) (len := len) (cap := cap) Try.underlying22 Try.underlying24 cells_pt rfl rfl cells_int cells_int (Nat.zero_le _) hl hm hs
      (fun i => .int .i64 (X i)) (fun i => .int .i64 (Y i)) (fun i => .lit (.int .i64 (X i))) (fun i => .lit (.int .i64 (Y i))) (fun _ => []) (fun _ => []) hc0 hc1
      (fun i hi => ⟨1, trod_int_mk 0 Try.underlying3 (wx i hi)⟩) (fun i hi => ⟨1, trod_int_mk 0 Try.underlying3 (wy i hi)⟩)
    refine ⟨n, hn.trans ?_⟩
    simp
  | false =>
    obtain rfl : cap = 0 := by
      rcases hsp with h | h
      · rw [hs] at h; cases h
      · exact h
    obtain rfl : len = 0 := by omega
    obtain ⟨n, hn⟩ := shut_slice_pairs (enc := enc) (w := W) (base := 0) (spare := sp) (held := held) (b := b) (off := off) (len := 0) (cap := 0) Try.underlying22 Try.underlying24 cells_pt rfl rfl cells_int cells_int (Nat.zero_le _) hl hm hs
      (fun i => .int .i64 (X i)) (fun i => .int .i64 (Y i)) (fun i => .lit (.int .i64 (X i))) (fun i => .lit (.int .i64 (Y i))) (fun _ => []) (fun _ => []) (fun i hi => by omega) (fun i hi => by omega) (fun i hi => by omega) (fun i hi => by omega)
    refine ⟨n, hn.trans ?_⟩
    simp

theorem open_pts {W : World} {v : Value} {d : DataW H} {p : List MemPlace} (h : DataW.Trod enc Try.prog W 0 (fun _ => true) true 22 v d p) (hv : ∃ a l c, v = .slice a l c) :
    ∃ r : List Pt, SlC W v r ∧ r.length ≤ maxLen ∧ ∀ W' : World, Below W.heap.size W W' → ∀ sp : Nat → Bool, (∀ q ∈ p, sp q.block = true) → DataW.Trod enc Try.prog W' 0 sp true 22 v d p := by
  obtain ⟨a0, l0, c0, rfl⟩ := hv
  obtain ⟨fuel, hf⟩ := h
  rcases open_slice_pairs Try.underlying22 Try.underlying24 cells_pt rfl rfl cells_int cells_int hf with ⟨h1, h2⟩ | ⟨a, len, cap, m, n, V0, V1, D0, D1, P0, P1, hcs, _, hl, hm, hmm, hx, hi⟩
  · simp only [Value.cells, List.cons.injEq, and_true] at h1
    simp only [Prod.mk.injEq] at h2
    obtain ⟨rfl, rfl⟩ := h2
    rw [h1]
    refine ⟨[], ⟨none, 0, rfl, Nat.le_refl _, .inl rfl⟩, Nat.zero_le _, fun W' _ sp _ => ?_⟩
    exact ⟨1, by simp [DataW.trod, Value.cells, Try.underlying22]⟩
  · simp only [if_true] at hmm
    subst hmm
    simp only [Value.cells, List.cons.injEq, and_true] at hcs
    rw [hcs]
    simp only [Prod.mk.injEq] at hx
    obtain ⟨rfl, rfl⟩ := hx
    have key : ∀ i, i < m → ∃ x y : Int, V0 i = .int .i64 x ∧ V1 i = .int .i64 y ∧ D0 i = .lit (.int .i64 x) ∧ D1 i = .lit (.int .i64 y) ∧ P0 i = [] ∧ P1 i = [] ∧ (Lit.int .i64 x).wf = true ∧ (Lit.int .i64 y).wf = true := by
      intro i hh
      obtain ⟨_, _, h3, h4⟩ := hi i hh
      obtain ⟨x, e0, e1, wx⟩ := DataW.trod_int Try.underlying3 h3
      obtain ⟨y, e2, e3, wy⟩ := DataW.trod_int Try.underlying3 h4
      simp only [List.cons.injEq, and_true] at e0 e2
      simp only [Prod.mk.injEq] at e1 e3
      exact ⟨x, y, e0, e2, e1.1, e3.1, e1.2, e3.2, wx, wy⟩
    obtain ⟨Z, hZ⟩ := choose_lt (α := Int × Int) (n := m) (p := fun i z => V0 i = .int .i64 z.1 ∧ V1 i = .int .i64 z.2 ∧ D0 i = .lit (.int .i64 z.1) ∧ D1 i = .lit (.int .i64 z.2) ∧ P0 i = [] ∧ P1 i = [] ∧ (Lit.int .i64 z.1).wf = true ∧ (Lit.int .i64 z.2).wf = true)
      (fun i hh => by obtain ⟨x, y, h⟩ := key i hh; exact ⟨(x, y), h⟩)
    obtain ⟨X, hX⟩ : ∃ X : Nat → Int, ∀ i, X i = (Z i).1 := ⟨fun i => (Z i).1, fun _ => rfl⟩
    obtain ⟨Y, hY⟩ : ∃ Y : Nat → Int, ∀ i, Y i = (Z i).2 := ⟨fun i => (Z i).2, fun _ => rfl⟩
    simp only [← hX, ← hY] at hZ
    have hd1 : (List.range len).map (fun i => DataW.agg [D0 i, D1 i]) = (List.range len).map fun i => DataW.agg [.lit (.int .i64 (X i)), .lit (.int .i64 (Y i))] :=
      List.map_congr_left fun i hi => by
        have := hZ i (by have := List.mem_range.1 hi; omega)
        rw [this.2.2.1, this.2.2.2.1]
    have hd2 : (List.range (m - len)).map (fun j => DataW.agg [D0 (len + j), D1 (len + j)]) = (List.range (m - len)).map fun j => DataW.agg [.lit (.int .i64 (X (len + j))), .lit (.int .i64 (Y (len + j)))] :=
      List.map_congr_left fun j hj => by
        have := hZ (len + j) (by have := List.mem_range.1 hj; omega)
        rw [this.2.2.1, this.2.2.2.1]
    have hp1 : (List.range m).flatMap (fun i => P0 i ++ P1 i) = [] := by
      rw [flatMap_congr_range (g := fun _ => []) (fun i hi => by rw [(hZ i hi).2.2.2.2.1, (hZ i hi).2.2.2.2.2.1]; rfl)]
      simp
    have hrl : ((List.range len).map fun i => (⟨X i, Y i⟩ : Pt)).length = len := by simp
    rw [hd1, hd2, hp1, List.append_nil]
    by_cases hm0 : m = 0
    · subst hm0
      obtain rfl : len = 0 := by omega
      refine ⟨[], ⟨some a, 0, rfl, Nat.le_refl _, .inl rfl⟩, Nat.zero_le _, fun W' _ sp _ => ?_⟩
      cases hs : sp a.block with
      | true =>
        obtain ⟨n, hn⟩ := shut_slice_whole_cells (enc := enc) (w := W') (base := 0) (spare := sp) (held := true) (a := a) (len := 0) (cap := 0) Try.underlying22 (Nat.zero_le _) hl hm hs (fun _ => .nil) (fun _ => []) (fun i hi => by omega)
        exact ⟨n, hn.trans (by simp [MemPlace.row])⟩
      | false =>
        obtain ⟨n, hn⟩ := shut_slice_cells (enc := enc) (w := W') (base := 0) (spare := sp) (held := true) (a := a) (len := 0) (cap := 0) Try.underlying22 (Nat.zero_le _) hl hm hs (fun _ => .nil) (fun _ => []) (fun i hi => by omega)
        exact ⟨n, hn.trans (by simp [MemPlace.row])⟩
    · have hc00 := (hi 0 (by omega)).1
      have hspot : a.spot = none := by
        have := World.cell?_spot hc00
        simpa [Addr.add] using this
      obtain ⟨b, off, sp0⟩ := a
      simp only at hspot
      subst hspot
      have hadd : ∀ i, Addr.add ⟨b, off, none⟩ i = ⟨b, off + i, none⟩ := fun i => by unfold Addr.add; split <;> simp_all
      have hc0 : ∀ i, i < m → W.cell? ⟨b, off + i * 2, none⟩ = some (.int .i64 (X i)) := fun i h => by
        have := (hi i h).1
        rw [hadd, (hZ i h).1] at this
        exact this
      have hc1 : ∀ i, i < m → W.cell? ⟨b, off + i * 2 + 1, none⟩ = some (.int .i64 (Y i)) := fun i h => by
        have := (hi i h).2.1
        rw [hadd, (hZ i h).2.1] at this
        exact this
      have hb : b < W.heap.size := cell_lt (hc0 0 (by omega))
      refine ⟨(List.range len).map fun i => (⟨X i, Y i⟩ : Pt), ⟨some ⟨b, off, none⟩, m, by rw [hrl], by rw [hrl]; exact hl, .inr ⟨b, off, rfl, hb, ?_⟩⟩, by rw [hrl]; omega, fun W' hW sp hsp => ?_⟩
      · intro i p hp
        have hil : i < len := by
          rcases Nat.lt_or_ge i len with h | h
          · exact h
          · rw [List.getElem?_eq_none (by rw [hrl]; exact h)] at hp; cases hp
        have e : p = ⟨X i, Y i⟩ := by simp [hil] at hp; exact hp.symm
        subst e
        exact ⟨hc0 i (by omega), hc1 i (by omega)⟩
      · refine trod_pts_mk hl hm X Y (fun i h => (hW.cell (p := ⟨b, _, none⟩) hb).trans (hc0 i h)) (fun i h => (hW.cell (p := ⟨b, _, none⟩) hb).trans (hc1 i h)) (fun i h => (hZ i h).2.2.2.2.2.2.1) (fun i h => (hZ i h).2.2.2.2.2.2.2) (.inl ?_)
        refine hsp (.cell b off) ?_
        have : 0 < m * 2 := by omega
        simp [MemPlace.row]
        omega
end
end Go.Proofs.Ytmklnioedeailaa
