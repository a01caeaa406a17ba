/-
  Maps as arguments: how their data open.
-/
import Derived.Test.YtpiocaomlifljaaNetW
import Derived.Deep.SlicePairs
import Derived.Deep.Slices
import Derived.SliceStrings
import Derived.ChangeMaps5
import Derived.ChangeOld
import Derived.DataReads
import Derived.WideKeyArgs
import Derived.Lib.SmallJoins
import Derived.Below
namespace Go.Proofs.Ytpiocaomlifljaa
open Go.ChangeShapes Go.WideShapes Go.Joins Go.Deep Go.Proofs.PlLex Go.Proofs.PlNet Go.RowKit

theorem cells_str : Try.prog.cellsOf 9 = 1 := by kernel_rfl
theorem cells_tag : Try.prog.cellsOf 88 = 2 := by kernel_rfl
theorem cells_ob : Try.prog.cellsOf 42 = 6 := by kernel_rfl
theorem cells_map : Try.prog.cellsOf 24 = 1 := by kernel_rfl
theorem list6 : ∀ {l : List Value}, l.length = 6 → ∃ c0 c1 c2 c3 c4 c5, l = [c0, c1, c2, c3, c4, c5]
  | [c0, c1, c2, c3, c4, c5], _ => ⟨c0, c1, c2, c3, c4, c5, rfl⟩
theorem list1 : ∀ {l : List Value}, l.length = 1 → ∃ c, l = [c]
  | [c], _ => ⟨c, rfl⟩
/-- An object as it may come in. -/
def inO (o : Ob) : Prop := o.id.size ≤ maxLen ∧ o.refs.length ≤ maxLen ∧ (∀ s ∈ o.refs, s.size ≤ maxLen) ∧ o.tags.length ≤ maxLen ∧ (∀ t ∈ o.tags, t.k.size ≤ maxLen ∧ t.v.size ≤ maxLen) ∧ (Lit.int .i64 o.kind).wf = true ∧ (Lit.int .i64 o.x).wf = true ∧ (Lit.int .i64 o.y).wf = true
/-- A map as it may come in. -/
structure MapW (W : World) (v : Value) (l : List Ob) : Prop where
  obs : ObsS W v l
  len : l.length ≤ maxLen
  ok : ∀ o ∈ l, inO o
theorem MapW.below {W W' : World} {v : Value} {l : List Ob} (h : MapW W v l) (hb : Below W.heap.size W W') : MapW W' v l := ⟨h.obs.below hb, h.len, h.ok⟩
theorem cell_lt' {w : World} {a : Addr} {v : Value} (h : w.cell? a = some v) : a.block < w.heap.size := World.block_lt_of_cell? w a h

section
variable {H : Type} {enc : TypeId × Value → H}

theorem down_strs {W : World} {n : Nat} {c : Value} {x : DataW H × List MemPlace} (h : DataW.trod enc Try.prog W 0 (fun _ => true) true n 39 [c] = some x) :
    ∃ L : List ByteArray, StS W c L ∧ L.length ≤ maxLen ∧ ∀ s ∈ L, s.size ≤ maxLen := by
  rcases open_strings Try.underlying39 Try.underlying9 cells_str h with ⟨h1, _⟩ | ⟨a, len, cap, ss, hcs, _, hl, hm, hz, _, hcell, hws⟩
  · simp only [List.cons.injEq, and_true] at h1
    rw [h1]
    exact ⟨[], ⟨none, 0, rfl, Nat.le_refl _, .inl rfl⟩, Nat.zero_le _, (fun s hs => nomatch hs)⟩
  · simp only [if_true] at hz
    simp only [List.cons.injEq, and_true] at hcs
    rw [hcs]
    subst hz
    have hlt : (ss.take len).length = len := by rw [List.length_take]; omega
    by_cases hm0 : ss.length = 0
    · obtain rfl : ss = [] := List.length_eq_zero_iff.1 hm0
      obtain rfl : len = 0 := by simpa using hl
      exact ⟨[], ⟨some a, 0, rfl, Nat.le_refl _, .inl rfl⟩, Nat.zero_le _, (fun s hs => nomatch hs)⟩
    · have hc00 := hcell 0 (by omega)
      have hspot : a.spot = none := by
        have := World.cell?_spot hc00
        simpa [Addr.add] using this
      obtain ⟨b, off, sp0⟩ := a
      simp only at hspot
      subst hspot
      have hadd : ∀ i, Addr.add ⟨b, off, none⟩ i = ⟨b, off + i, none⟩ := fun i => by unfold Addr.add; split <;> simp_all
      have hc0 : ∀ i, i < ss.length → W.cell? ⟨b, off + i, none⟩ = some (.string (ss.getD i ByteArray.empty)) := fun i h => by
        have := hcell i h
        rw [hadd] at this
        exact this
      have hb : b < W.heap.size := cell_lt' (hc0 0 (by omega))
      refine ⟨ss.take len, ⟨some ⟨b, off, none⟩, ss.length, by rw [hlt], by rw [hlt]; exact hl, .inr ⟨b, off, rfl, hb, ?_⟩⟩, by rw [hlt]; omega, fun s hs => hws s (List.mem_of_mem_take hs)⟩
      intro i s hi
      have hil : i < len := by
        rcases Nat.lt_or_ge i len with h | h
        · exact h
        · rw [List.getElem?_eq_none (by rw [hlt]; exact h)] at hi; cases hi
      rw [List.getElem?_take, if_pos hil] at hi
      rw [hc0 i (by omega), List.getD_eq_getElem?_getD, hi]
      rfl

theorem down_tags {W : World} {n : Nat} {c : Value} {x : DataW H × List MemPlace} (h : DataW.trod enc Try.prog W 0 (fun _ => true) true n 40 [c] = some x) :
    ∃ r : List Tg, TgS W c r ∧ r.length ≤ maxLen ∧ ∀ t ∈ r, t.k.size ≤ maxLen ∧ t.v.size ≤ maxLen := by
  rcases open_slice_pairs Try.underlying40 Try.underlying88 cells_tag rfl rfl cells_str cells_str h with ⟨h1, _⟩ | ⟨a, len, cap, m, n, V0, V1, D0, D1, P0, P1, hcs, _, hl, hm, hmm, hx, hi⟩
  · simp only [List.cons.injEq, and_true] at h1
    rw [h1]
    exact ⟨[], ⟨none, 0, rfl, .inl rfl⟩, Nat.zero_le _, (fun s hs => nomatch hs)⟩
  · simp only [if_true] at hmm
    subst hmm
    simp only [List.cons.injEq, and_true] at hcs
    rw [hcs]
    have key : ∀ i, i < m → ∃ z : ByteArray × ByteArray, V0 i = .string z.1 ∧ V1 i = .string z.2 ∧ z.1.size ≤ maxLen ∧ z.2.size ≤ maxLen := by
      intro i hh
      obtain ⟨_, _, h3, h4⟩ := hi i hh
      obtain ⟨x, e0, _, wx⟩ := DataW.trod_string Try.underlying9 h3
      obtain ⟨y, e2, _, wy⟩ := DataW.trod_string Try.underlying9 h4
      simp only [List.cons.injEq, and_true] at e0 e2
      exact ⟨(x, y), e0, e2, wx, wy⟩
    obtain ⟨Z, hZ⟩ := choose_lt key
    have hrl : ((List.range len).map fun i => (⟨(Z i).1, (Z i).2⟩ : Tg)).length = len := by simp
    by_cases hm0 : m = 0
    · subst hm0
      obtain rfl : len = 0 := by omega
      exact ⟨[], ⟨some a, 0, rfl, .inl rfl⟩, Nat.zero_le _, (fun s hs => nomatch hs)⟩
    · have hc00 := (hi 0 (by omega)).1
      have hspot : a.spot = none := by
        have := World.cell?_spot hc00
        simpa [Addr.add] using this
      obtain ⟨b, off, sp0⟩ := a
      simp only at hspot
      subst hspot
      have hadd : ∀ i, Addr.add ⟨b, off, none⟩ i = ⟨b, off + i, none⟩ := fun i => by unfold Addr.add; split <;> simp_all
      have hc0 : ∀ i, i < m → W.cell? ⟨b, off + i * 2, none⟩ = some (.string (Z i).1) := fun i h => by
        have := (hi i h).1
        rw [hadd, (hZ i h).1] at this
        exact this
      have hc1 : ∀ i, i < m → W.cell? ⟨b, off + i * 2 + 1, none⟩ = some (.string (Z i).2) := fun i h => by
        have := (hi i h).2.1
        rw [hadd, (hZ i h).2.1] at this
        exact this
      have hb : b < W.heap.size := cell_lt' (hc0 0 (by omega))
      have hat : ∀ (i : Nat) p, ((List.range len).map fun i => (⟨(Z i).1, (Z i).2⟩ : Tg))[i]? = some p → i < len ∧ p = ⟨(Z i).1, (Z i).2⟩ := by
        intro i p hp
        have hil : i < len := by
          rcases Nat.lt_or_ge i len with h | h
          · exact h
          · rw [List.getElem?_eq_none (by rw [hrl]; exact h)] at hp; cases hp
        refine ⟨hil, ?_⟩
        simp [hil] at hp
        exact hp.symm
      refine ⟨(List.range len).map fun i => (⟨(Z i).1, (Z i).2⟩ : Tg), ⟨some ⟨b, off, none⟩, m, by rw [hrl], .inr ⟨b, off, rfl, hb, ?_⟩⟩, by rw [hrl]; omega, fun t ht => ?_⟩
      · intro i p hp
        obtain ⟨hil, rfl⟩ := hat i p hp
        exact ⟨hc0 i (by omega), hc1 i (by omega)⟩
      · obtain ⟨i, hit⟩ := List.getElem?_of_mem ht
        obtain ⟨hil, rfl⟩ := hat i t hit
        exact ⟨(hZ i (by omega)).2.2.1, (hZ i (by omega)).2.2.2⟩

theorem down_ob {W : World} {n : Nat} {cs : List Value} {x : DataW H × List MemPlace} (h : DataW.trod enc Try.prog W 0 (fun _ => true) true n 42 cs = some x) :
    ∃ (o : Ob) (rv tv : Value), cs = [.string o.id, .int .i64 o.kind, .int .i64 o.x, .int .i64 o.y, rv, tv] ∧ StS W rv o.refs ∧ TgS W tv o.tags ∧ inO o := by
  obtain ⟨xs, n, _, _, hl, hxl, hf⟩ := DataW.trod_struct Try.underlying42 h
  rw [cells_ob] at hl
  obtain ⟨c0, c1, c2, c3, c4, c5, rfl⟩ : ∃ c0 c1 c2 c3 c4 c5, cs = [c0, c1, c2, c3, c4, c5] := list6 hl
  have hxl : xs.length = 5 := hxl
  have h0 := (hf 0 _ rfl).trans (List.getElem?_eq_getElem (by omega))
  have h1 := (hf 1 _ rfl).trans (List.getElem?_eq_getElem (by omega))
  have h2 := (hf 2 _ rfl).trans (List.getElem?_eq_getElem (by omega))
  have h3 := (hf 3 _ rfl).trans (List.getElem?_eq_getElem (by omega))
  have h4 := (hf 4 _ rfl).trans (List.getElem?_eq_getElem (by omega))
  have e1 : Try.prog.cellsOf 3 = 1 := by kernel_rfl
  have e2 : Try.prog.cellsOf 38 = 2 := by kernel_rfl
  have e3 : Try.prog.cellsOf 39 = 1 := by kernel_rfl
  have e4 : Try.prog.cellsOf 40 = 1 := by kernel_rfl
  simp only [List.getElem_toArray, List.getElem_cons_zero, List.getElem_cons_succ, cells_str, e1, e2, e3, e4, List.drop_succ_cons, List.drop_zero, List.take_succ_cons, List.take_zero] at h0 h1 h2 h3 h4
  obtain ⟨id, a0, _, w0⟩ := DataW.trod_string Try.underlying9 h0
  obtain ⟨k, a1, _, w1⟩ := DataW.trod_int Try.underlying3 h1
  obtain ⟨y0, y1, m, _, _, p0, p1⟩ := trod_struct2 Try.underlying38 h2
  simp only [e1, List.drop_succ_cons, List.drop_zero, List.take_succ_cons, List.take_zero] at p0 p1
  obtain ⟨px, a2, _, w2⟩ := DataW.trod_int Try.underlying3 p0
  obtain ⟨py, a3, _, w3⟩ := DataW.trod_int Try.underlying3 p1
  obtain ⟨L, s4, l4, z4⟩ := down_strs h3
  obtain ⟨r, s5, l5, z5⟩ := down_tags h4
  simp only [List.cons.injEq, and_true] at a0 a1 a2 a3
  subst a0 a1 a2 a3
  exact ⟨⟨id, k, px, py, L, r⟩, c4, c5, rfl, s4, s5, w0, l4, z4, l5, z5, w1, w2, w3⟩

theorem down_obs {W : World} {n : Nat} {c : Value} {x : DataW H × List MemPlace} (h : DataW.trod enc Try.prog W 0 (fun _ => true) true n 22 [c] = some x) : ∃ l : List Ob, MapW W c l := by
  rcases open_slice Try.underlying22 h with ⟨h1, _⟩ | ⟨a, len, cap, m, n, D, Pl, hcs, _, hl, hm, hmm, _, hi⟩
  · simp only [List.cons.injEq, and_true] at h1
    rw [h1]
    exact ⟨[], ⟨none, 0, rfl, Nat.le_refl _, .inl rfl⟩, Nat.zero_le _, (fun s hs => nomatch hs)⟩
  · simp only [if_true] at hmm
    subst hmm
    simp only [List.cons.injEq, and_true] at hcs
    rw [hcs]
    by_cases hm0 : len = 0
    · subst hm0
      exact ⟨[], ⟨some a, _, rfl, Nat.zero_le _, .inl rfl⟩, Nat.zero_le _, (fun s hs => nomatch hs)⟩
    · have key : ∀ i, i < m → ∃ z : Ob × Value × Value, (∀ j, j < 6 → W.cell? ((a.add (i * 6)).add j) = [Value.string z.1.id, .int .i64 z.1.kind, .int .i64 z.1.x, .int .i64 z.1.y, z.2.1, z.2.2][j]?) ∧ StS W z.2.1 z.1.refs ∧ TgS W z.2.2 z.1.tags ∧ inO z.1 := by
        intro i hh
        obtain ⟨cs', h1, h2⟩ := hi i hh
        obtain ⟨o, rv, tv, rfl, h3, h4, h5⟩ := down_ob h2
        rw [cells_ob] at h1
        obtain ⟨_, _, h6⟩ := World.cells?_some h1
        exact ⟨(o, rv, tv), fun j hj => h6 j hj, h3, h4, h5⟩
      haveI : Inhabited Ob := ⟨⟨⟨#[]⟩, 0, 0, 0, [], []⟩⟩
      haveI : Inhabited Value := ⟨undef⟩
      obtain ⟨Z, hZ⟩ := choose_lt key
      have hc00 := (hZ 0 (by omega)).1 0 (by omega)
      have hspot : a.spot = none := by
        have := World.cell?_spot hc00
        simpa [Addr.add] using this
      obtain ⟨b, off, sp0⟩ := a
      simp only at hspot
      subst hspot
      have hadd : ∀ i j, Addr.add (Addr.add ⟨b, off, none⟩ i) j = ⟨b, off + i + j, none⟩ := fun i j => by
        have e : ∀ o i, Addr.add ⟨b, o, none⟩ i = ⟨b, o + i, none⟩ := fun o i => by unfold Addr.add; split <;> simp_all
        rw [e, e]
      have hb : b < W.heap.size := by
        rw [hadd] at hc00
        exact cell_lt' (a := ⟨b, _, none⟩) hc00
      have hrl : ((List.range len).map fun i => (Z i).1).length = len := by simp
      have hat : ∀ (i : Nat) p, ((List.range len).map fun i => (Z i).1)[i]? = some p → i < len ∧ p = (Z i).1 := by
        intro i p hp
        have hil : i < len := by
          rcases Nat.lt_or_ge i len with h | h
          · exact h
          · rw [List.getElem?_eq_none (by rw [hrl]; exact h)] at hp; cases hp
        refine ⟨hil, ?_⟩
        simp [hil] at hp
        exact hp.symm
      refine ⟨(List.range len).map fun i => (Z i).1, ⟨some ⟨b, off, none⟩, m, by rw [hrl], by rw [hrl]; exact hl, .inr ⟨b, off, rfl, hb, ?_⟩⟩, by rw [hrl]; omega, fun o ho => ?_⟩
      · intro i o hp
        obtain ⟨hil, rfl⟩ := hat i o hp
        obtain ⟨g1, g2, g3, _⟩ := hZ i (by omega)
        refine ⟨(Z i).2.1, (Z i).2.2, ?_, ?_, ?_, ?_, ?_, ?_, g2, g3⟩
        · have := g1 0 (by omega); rw [hadd] at this; exact this
        · have := g1 1 (by omega); rw [hadd] at this; exact this
        · have := g1 2 (by omega); rw [hadd] at this; exact this
        · have := g1 3 (by omega); rw [hadd] at this; exact this
        · have := g1 4 (by omega); rw [hadd] at this; exact this
        · have := g1 5 (by omega); rw [hadd] at this; exact this
      · obtain ⟨i, hit⟩ := List.getElem?_of_mem ho
        obtain ⟨hil, rfl⟩ := hat i o hit
        exact (hZ i (by omega)).2.2.2

theorem laid_out : laidOutB Try.prog = true := by kernel_rfl
theorem readable_map : Try.prog.readableRec 24 = true := by kernel_rfl
/-- What came in stays in every world that has grown. -/
theorem map_stays {W W' : World} {v : Value} {d : DataW H} {p : List MemPlace} (h : DataW.Trod enc Try.prog W 0 (fun _ => true) true 24 v d p) (hb : Below W.heap.size W W') (sp : Nat → Bool) (hs : ∀ q ∈ p, sp q.block = true) : DataW.Trod enc Try.prog W' 0 sp true 24 v d p := by
  refine WideElems.Trod_stays laid_out readable_map (of_decide_eq_true (by kernel_rfl)) h (fun q hq => ?_) hs
  obtain ⟨n, hn⟩ := h
  have hlt := DataW.trod_lt n _ _ _ hn q hq
  cases q with
  | cell b o => exact hb.cell (p := ⟨b, o, none⟩) hlt
  | map b => exact hb.block b hlt
set_option maxRecDepth 100000 in
theorem open_map {W : World} {v : Value} {r : Reach} {b0 : Nat} {d : DataW H} {p : List MemPlace} (hv : Value.okWide Try.prog W r b0 24 v) (h : DataW.Trod enc Try.prog W 0 (fun _ => true) true 24 v d p) :
    ∃ (c : Value) (l : List Ob), v = .agg #[c] ∧ MapW W c l := by
  obtain ⟨cs, rfl, hsz⟩ := okWide_struct Try.underlying24 hv
  rw [cells_map] at hsz
  obtain ⟨l⟩ := cs
  obtain ⟨c, rfl⟩ : ∃ c, l = [c] := list1 hsz
  obtain ⟨n, hn⟩ := h
  obtain ⟨y0, m, _, _, h0⟩ := trod_struct1 Try.underlying24 hn
  have e : Try.prog.cellsOf 22 = 1 := by kernel_rfl
  simp only [Value.cells, e, List.drop_zero, List.take_succ_cons, List.take_zero] at h0
  obtain ⟨l, hl⟩ := down_obs h0
  exact ⟨c, l, rfl, hl⟩
end
end Go.Proofs.Ytpiocaomlifljaa
