/-
  Lists of rules as arguments: how their data open.
-/
import Derived.Test.YtoodmhlefaepaaaGreatRulT
import Derived.Deep.SlicePairs
import Derived.Deep.Slices
import Derived.SliceStrings
import Derived.ChangeMaps5
import Derived.ChangeOld
import Derived.DataReads
import Derived.WideKeyArgs
import Derived.Lib.SmallJoins
import Derived.Below
namespace Go.Proofs.YtoodmhlefaepaaaGreat
open Go.ChangeShapes Go.WideShapes Go.Joins Go.Deep Go.Proofs.PlLex Go.Proofs.PlRule Go.RowKit

theorem cells_str : Tryz.prog.cellsOf 9 = 1 := by kernel_rfl
theorem cells_rl : Tryz.prog.cellsOf 37 = 8 := by kernel_rfl
theorem list8 : ∀ {l : List Value}, l.length = 8 → ∃ c0 c1 c2 c3 c4 c5 c6 c7, l = [c0, c1, c2, c3, c4, c5, c6, c7]
  | [c0, c1, c2, c3, c4, c5, c6, c7], _ => ⟨c0, c1, c2, c3, c4, c5, c6, c7, rfl⟩
/-- Rules as they may come in. -/
structure RlsW (W : World) (v : Value) (l : List Rl) : Prop where
  rls : RlS W v l
  len : l.length ≤ maxLen
  ok : ∀ x ∈ l, RlM x
theorem cell_lt' {w : World} {a : Addr} {v : Value} (h : w.cell? a = some v) : a.block < w.heap.size := World.block_lt_of_cell? w a h

section
variable {H : Type} {enc : TypeId × Value → H}

theorem down_strs {W : World} {n : Nat} {c : Value} {x : DataW H × List MemPlace} (h : DataW.trod enc Tryz.prog W 0 (fun _ => true) true n 35 [c] = some x) :
    ∃ L : List ByteArray, StS W c L ∧ L.length ≤ maxLen ∧ ∀ s ∈ L, s.size ≤ maxLen := by
  rcases open_strings Tryz.underlying35 Tryz.underlying9 cells_str h with ⟨h1, _⟩ | ⟨a, len, cap, ss, hcs, _, hl, hm, hz, _, hcell, hws⟩
  · simp only [List.cons.injEq, and_true] at h1
    rw [h1]
    exact ⟨[], ⟨none, 0, rfl, Nat.le_refl _, .inl rfl⟩, Nat.zero_le _, (fun s hs => nomatch hs)⟩
  · simp only [if_true] at hz
    simp only [List.cons.injEq, and_true] at hcs
    rw [hcs]
    subst hz
    have hlt : (ss.take len).length = len := by rw [List.length_take]; omega
    by_cases hm0 : ss.length = 0
    · obtain rfl : ss = [] := List.length_eq_zero_iff.1 hm0
      obtain rfl : len = 0 := by simpa using hl
      exact ⟨[], ⟨some a, 0, rfl, Nat.le_refl _, .inl rfl⟩, Nat.zero_le _, (fun s hs => nomatch hs)⟩
    · have hc00 := hcell 0 (by omega)
      have hspot : a.spot = none := by
        have := World.cell?_spot hc00
        simpa [Addr.add] using this
      obtain ⟨b, off, sp0⟩ := a
      simp only at hspot
      subst hspot
      have hadd : ∀ i, Addr.add ⟨b, off, none⟩ i = ⟨b, off + i, none⟩ := fun i => by unfold Addr.add; split <;> simp_all
      have hc0 : ∀ i, i < ss.length → W.cell? ⟨b, off + i, none⟩ = some (.string (ss.getD i ByteArray.empty)) := fun i h => by
        have := hcell i h
        rw [hadd] at this
        exact this
      have hb : b < W.heap.size := cell_lt' (hc0 0 (by omega))
      refine ⟨ss.take len, ⟨some ⟨b, off, none⟩, ss.length, by rw [hlt], by rw [hlt]; exact hl, .inr ⟨b, off, rfl, hb, ?_⟩⟩, by rw [hlt]; omega, fun s hs => hws s (List.mem_of_mem_take hs)⟩
      intro i s hi
      have hil : i < len := by
        rcases Nat.lt_or_ge i len with h | h
        · exact h
        · rw [List.getElem?_eq_none (by rw [hlt]; exact h)] at hi; cases hi
      rw [List.getElem?_take, if_pos hil] at hi
      rw [hc0 i (by omega), List.getD_eq_getElem?_getD, hi]
      rfl

theorem down_rl {W : World} {n : Nat} {cs : List Value} {x : DataW H × List MemPlace} (h : DataW.trod enc Tryz.prog W 0 (fun _ => true) true n 37 cs = some x) :
    ∃ (o : Rl) (vv : Value), cs = [.bool o.strict, .string o.area, .int .i64 o.kind, .string o.ik, .string o.iv, .int .i64 o.op, .string o.key, vv] ∧ StS W vv o.vals ∧ RlM o := by
  obtain ⟨xs, n, _, _, hl, hxl, hf⟩ := DataW.trod_struct Tryz.underlying37 h
  rw [cells_rl] at hl
  obtain ⟨c0, c1, c2, c3, c4, c5, c6, c7, rfl⟩ : ∃ c0 c1 c2 c3 c4 c5 c6 c7, cs = [c0, c1, c2, c3, c4, c5, c6, c7] := list8 hl
  have hxl : xs.length = 7 := hxl
  have h0 := (hf 0 _ rfl).trans (List.getElem?_eq_getElem (by omega))
  have h1 := (hf 1 _ rfl).trans (List.getElem?_eq_getElem (by omega))
  have h2 := (hf 2 _ rfl).trans (List.getElem?_eq_getElem (by omega))
  have h3 := (hf 3 _ rfl).trans (List.getElem?_eq_getElem (by omega))
  have h4 := (hf 4 _ rfl).trans (List.getElem?_eq_getElem (by omega))
  have h5 := (hf 5 _ rfl).trans (List.getElem?_eq_getElem (by omega))
  have h6 := (hf 6 _ rfl).trans (List.getElem?_eq_getElem (by omega))
  have e0 : Tryz.prog.cellsOf 4 = 1 := by kernel_rfl
  have e1 : Tryz.prog.cellsOf 3 = 1 := by kernel_rfl
  have e2 : Tryz.prog.cellsOf 34 = 2 := by kernel_rfl
  have e3 : Tryz.prog.cellsOf 35 = 1 := by kernel_rfl
  simp only [List.getElem_toArray, List.getElem_cons_zero, List.getElem_cons_succ, cells_str, e0, e1, e2, e3, List.drop_succ_cons, List.drop_zero, List.take_succ_cons, List.take_zero] at h0 h1 h2 h3 h4 h5 h6
  obtain ⟨st, a0, _⟩ := DataW.trod_bool Tryz.underlying4 h0
  obtain ⟨ar, a1, _, w1⟩ := DataW.trod_string Tryz.underlying9 h1
  obtain ⟨k, a2, _, w2⟩ := DataW.trod_int Tryz.underlying3 h2
  obtain ⟨y0, y1, m, _, _, p0, p1⟩ := trod_struct2 Tryz.underlying34 h3
  simp only [cells_str, List.drop_succ_cons, List.drop_zero, List.take_succ_cons, List.take_zero] at p0 p1
  obtain ⟨ik, a3, _, w3⟩ := DataW.trod_string Tryz.underlying9 p0
  obtain ⟨iv, a4, _, w4⟩ := DataW.trod_string Tryz.underlying9 p1
  obtain ⟨op, a5, _, w5⟩ := DataW.trod_int Tryz.underlying3 h4
  obtain ⟨ky, a6, _, w6⟩ := DataW.trod_string Tryz.underlying9 h5
  obtain ⟨L, s7, l7, z7⟩ := down_strs h6
  simp only [List.cons.injEq, and_true] at a0 a1 a2 a3 a4 a5 a6
  subst a0 a1 a2 a3 a4 a5 a6
  exact ⟨⟨st, ar, k, ik, iv, op, ky, L⟩, c7, rfl, s7, w1, w3, w4, w6, l7⟩

theorem down_rls {W : World} {n : Nat} {c : Value} {x : DataW H × List MemPlace} (h : DataW.trod enc Tryz.prog W 0 (fun _ => true) true n 22 [c] = some x) : ∃ l : List Rl, RlsW W c l := by
  rcases open_slice Tryz.underlying22 h with ⟨h1, _⟩ | ⟨a, len, cap, m, n, D, Pl, hcs, _, hl, hm, hmm, _, hi⟩
  · simp only [List.cons.injEq, and_true] at h1
    rw [h1]
    exact ⟨[], ⟨none, 0, rfl, Nat.le_refl _, .inl rfl⟩, Nat.zero_le _, (fun s hs => nomatch hs)⟩
  · simp only [if_true] at hmm
    subst hmm
    simp only [List.cons.injEq, and_true] at hcs
    rw [hcs]
    by_cases hm0 : len = 0
    · subst hm0
      exact ⟨[], ⟨some a, _, rfl, Nat.zero_le _, .inl rfl⟩, Nat.zero_le _, (fun s hs => nomatch hs)⟩
    · have key : ∀ i, i < m → ∃ z : Rl × Value, (∀ j, j < 8 → W.cell? ((a.add (i * 8)).add j) = [Value.bool z.1.strict, .string z.1.area, .int .i64 z.1.kind, .string z.1.ik, .string z.1.iv, .int .i64 z.1.op, .string z.1.key, z.2][j]?) ∧ StS W z.2 z.1.vals ∧ RlM z.1 := by
        intro i hh
        obtain ⟨cs', h1, h2⟩ := hi i hh
        obtain ⟨o, vv, rfl, h3, h5⟩ := down_rl h2
        rw [cells_rl] at h1
        obtain ⟨_, _, h6⟩ := World.cells?_some h1
        exact ⟨(o, vv), fun j hj => h6 j hj, h3, h5⟩
      haveI : Inhabited Rl := ⟨⟨false, ⟨#[]⟩, 0, ⟨#[]⟩, ⟨#[]⟩, 0, ⟨#[]⟩, []⟩⟩
      haveI : Inhabited Value := ⟨undef⟩
      obtain ⟨Z, hZ⟩ := choose_lt key
      have hc00 := (hZ 0 (by omega)).1 0 (by omega)
      have hspot : a.spot = none := by
        have := World.cell?_spot hc00
        simpa [Addr.add] using this
      obtain ⟨b, off, sp0⟩ := a
      simp only at hspot
      subst hspot
      have hadd : ∀ i j, Addr.add (Addr.add ⟨b, off, none⟩ i) j = ⟨b, off + i + j, none⟩ := fun i j => by
        have e : ∀ o i, Addr.add ⟨b, o, none⟩ i = ⟨b, o + i, none⟩ := fun o i => by unfold Addr.add; split <;> simp_all
        rw [e, e]
      have hb : b < W.heap.size := by
        rw [hadd] at hc00
        exact cell_lt' (a := ⟨b, _, none⟩) hc00
      have hrl : ((List.range len).map fun i => (Z i).1).length = len := by simp
      have hat : ∀ (i : Nat) p, ((List.range len).map fun i => (Z i).1)[i]? = some p → i < len ∧ p = (Z i).1 := by
        intro i p hp
        have hil : i < len := by
          rcases Nat.lt_or_ge i len with h | h
          · exact h
          · rw [List.getElem?_eq_none (by rw [hrl]; exact h)] at hp; cases hp
        refine ⟨hil, ?_⟩
        simp [hil] at hp
        exact hp.symm
      refine ⟨(List.range len).map fun i => (Z i).1, ⟨some ⟨b, off, none⟩, m, by rw [hrl], by rw [hrl]; exact hl, .inr ⟨b, off, rfl, hb, ?_⟩⟩, by rw [hrl]; omega, fun o ho => ?_⟩
      · intro i o hp
        obtain ⟨hil, rfl⟩ := hat i o hp
        obtain ⟨g1, g2, _⟩ := hZ i (by omega)
        refine ⟨(Z i).2, ?_, ?_, ?_, ?_, ?_, ?_, ?_, ?_, g2⟩
        · have := g1 0 (by omega); rw [hadd] at this; exact this
        · have := g1 1 (by omega); rw [hadd] at this; exact this
        · have := g1 2 (by omega); rw [hadd] at this; exact this
        · have := g1 3 (by omega); rw [hadd] at this; exact this
        · have := g1 4 (by omega); rw [hadd] at this; exact this
        · have := g1 5 (by omega); rw [hadd] at this; exact this
        · have := g1 6 (by omega); rw [hadd] at this; exact this
        · have := g1 7 (by omega); rw [hadd] at this; exact this
      · obtain ⟨i, hit⟩ := List.getElem?_of_mem ho
        obtain ⟨hil, rfl⟩ := hat i o hit
        exact (hZ i (by omega)).2.2

theorem laid_out : laidOutB Tryz.prog = true := by kernel_rfl
theorem readable_rules : Tryz.prog.readableRec 22 = true := by kernel_rfl
/-- What came in stays in every world that has grown. -/
theorem rules_stays {W W' : World} {v : Value} {d : DataW H} {p : List MemPlace} (h : DataW.Trod enc Tryz.prog W 0 (fun _ => true) true 22 v d p) (hb : Below W.heap.size W W') (sp : Nat → Bool) (hs : ∀ q ∈ p, sp q.block = true) : DataW.Trod enc Tryz.prog W' 0 sp true 22 v d p := by
  refine WideElems.Trod_stays laid_out readable_rules (of_decide_eq_true (by kernel_rfl)) h (fun q hq => ?_) hs
  obtain ⟨n, hn⟩ := h
  have hlt := DataW.trod_lt n _ _ _ hn q hq
  cases q with
  | cell b o => exact hb.cell (p := ⟨b, o, none⟩) hlt
  | map b => exact hb.block b hlt
set_option maxRecDepth 100000 in
theorem open_rules {W : World} {v : Value} {r : Reach} {b0 : Nat} {d : DataW H} {p : List MemPlace} (hv : Value.okWide Tryz.prog W r b0 22 v) (h : DataW.Trod enc Tryz.prog W 0 (fun _ => true) true 22 v d p) :
    ∃ l : List Rl, RlsW W v l := by
  obtain ⟨a0, l0, c0, rfl⟩ := okWide_slice Tryz.underlying22 hv
  obtain ⟨n, hn⟩ := h
  exact down_rls hn
end
end Go.Proofs.YtoodmhlefaepaaaGreat
