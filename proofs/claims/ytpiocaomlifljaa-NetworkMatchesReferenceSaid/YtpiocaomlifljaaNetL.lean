/-
  Violations in memory; network.Check, walked.
-/
import Derived.Test.YtpiocaomlifljaaNetK
import Derived.Deep.AppendLies
import Derived.Laws.AppendOwnNone
import Derived.OwnWalk
namespace Go.Proofs.Ytpiocaomlifljaa
open Go.RowKit Go.Proofs.PlLex Go.Proofs.PlNet Go.Proofs.PlMap

/-- A slice value that reads as violations of one Id each. -/
def ViO (W : World) (g o : Nat) (L : List (Int × ByteArray)) : Prop := ∀ (i : Nat) x, L[i]? = some x → ∃ b, W.cell? ⟨g, o + i * 3, none⟩ = some (.string ⟨#[]⟩) ∧ W.cell? ⟨g, o + i * 3 + 1, none⟩ = some (.int .i64 x.1) ∧ W.cell? ⟨g, o + i * 3 + 2, none⟩ = some (.slice (some ⟨b, 0, none⟩) 1 1) ∧ b < W.heap.size ∧ W.cell? ⟨b, 0, none⟩ = some (.string x.2)
def ViS (W : World) (v : Value) (L : List (Int × ByteArray)) : Prop := ∃ A c, v = .slice A L.length c ∧ (L = [] ∨ ∃ g o, A = some ⟨g, o, none⟩ ∧ g < W.heap.size ∧ ViO W g o L)
theorem ViO.below {W W' : World} {g o : Nat} {L : List (Int × ByteArray)} (h : ViO W g o L) (hg : g < W.heap.size) (hb : Below W.heap.size W W') : ViO W' g o L := fun i x hi => by
  obtain ⟨b, h1, h2, h3, h4, h5⟩ := h i x hi
  exact ⟨b, (hb.cell (p := ⟨g, _, none⟩) hg).trans h1, (hb.cell (p := ⟨g, _, none⟩) hg).trans h2, (hb.cell (p := ⟨g, _, none⟩) hg).trans h3, Nat.lt_of_lt_of_le h4 hb.size, (hb.cell (p := ⟨b, _, none⟩) h4).trans h5⟩
theorem ViS.below {W W' : World} {v : Value} {L : List (Int × ByteArray)} (h : ViS W v L) (hb : Below W.heap.size W W') : ViS W' v L := by
  obtain ⟨A, c, hv, h⟩ := h
  refine ⟨A, c, hv, ?_⟩
  rcases h with h | ⟨g, o, hA, hg, hp⟩
  · exact .inl h
  · exact .inr ⟨g, o, hA, Nat.lt_of_lt_of_le hg hb.size, hp.below hg hb⟩

/-- A violation in a row of the call's own: its kind, its Id, and the block of the list of Ids. -/
structure Vr where
  kind : Int
  id : ByteArray
  b : Nat
def Vr.pair (x : Vr) : Int × ByteArray := (x.kind, x.id)
def Vr.cells (x : Vr) : List Value := [.string ⟨#[]⟩, .int .i64 x.kind, .slice (some ⟨x.b, 0, none⟩) 1 1]
def cellsV : List Vr → List Value
  | [] => []
  | x :: r => x.cells ++ cellsV r
theorem cellsV_app (a b : List Vr) : cellsV (a ++ b) = cellsV a ++ cellsV b := by
  induction a with
  | nil => rfl
  | cons x a ih => simp only [List.cons_append, cellsV, ih, List.append_assoc]
theorem cellsV_len (a : List Vr) : (cellsV a).length = a.length * 3 := by
  induction a with
  | nil => rfl
  | cons x a ih => simp only [cellsV, Vr.cells, List.length_append, ih, List.length_cons, List.length_nil]; omega
theorem cellsV_at (r : List Vr) (i : Nat) (x : Vr) (h : r[i]? = some x) : (cellsV r)[i * 3]? = some (.string ⟨#[]⟩) ∧ (cellsV r)[i * 3 + 1]? = some (.int .i64 x.kind) ∧ (cellsV r)[i * 3 + 2]? = some (.slice (some ⟨x.b, 0, none⟩) 1 1) := by
  induction r generalizing i with
  | nil => simp at h
  | cons y r ih =>
    cases i with
    | zero =>
      simp at h
      subst h
      exact ⟨rfl, rfl, rfl⟩
    | succ i =>
      obtain ⟨h1, h2, h3⟩ := ih i (by simpa using h)
      have e : ∀ j, (cellsV (y :: r))[3 + j]? = (cellsV r)[j]? := fun j => by
        show (y.cells ++ cellsV r)[3 + j]? = _
        rw [List.getElem?_append_right (by simp [Vr.cells])]
        simp [Vr.cells]
      refine ⟨?_, ?_, ?_⟩
      · rw [show (i + 1) * 3 = 3 + i * 3 by omega, e]; exact h1
      · rw [show (i + 1) * 3 + 1 = 3 + (i * 3 + 1) by omega, e]; exact h2
      · rw [show (i + 1) * 3 + 2 = 3 + (i * 3 + 2) by omega, e]; exact h3
theorem own_below {w w' : World} {B : Nat} {e : TypeId} {sz : Nat} {v : Value} {n : Nat} {xs : List Value} (h : w.ownsRow B e sz v n xs) (hb : Below w.heap.size w w') : w'.ownsRow B e sz v n xs := by
  obtain ⟨h1, h2⟩ := h
  refine ⟨h1, ?_⟩
  rcases h2 with h2 | ⟨g, cap, cur, hv, hg, hh, r⟩
  · exact .inl h2
  · exact .inr ⟨g, cap, cur, hv, hg, (hb.block g (lt_of_block hh)).trans hh, r⟩
theorem own_kept {w w' : World} {B : Nat} {e : TypeId} {sz : Nat} {v : Value} {n : Nat} {xs : List Value} {row : Option Nat} (h : w.ownsRow B e sz v n xs) (hb : w.grownBy w' row) (hr : ∀ b, v.ownBlock = some b → row ≠ some b) : w'.ownsRow B e sz v n xs := by
  obtain ⟨h1, h2⟩ := h
  refine ⟨h1, ?_⟩
  rcases h2 with h2 | ⟨g, cap, cur, rfl, hg, hh, r⟩
  · exact .inl h2
  · exact .inr ⟨g, cap, cur, rfl, hg, (hb.block g (lt_of_block hh) (fun e => hr g rfl e.symm)).trans hh, r⟩
theorem own_block {w : World} {B : Nat} {e : TypeId} {sz : Nat} {v : Value} {n : Nat} {xs : List Value} (h : w.ownsRow B e sz v n xs) {b : Nat} (hb : v.ownBlock = some b) : B ≤ b ∧ ∃ cur, w.heap[b]? = some (.cells cur e (0, 0)) := by
  rcases h.2 with ⟨rfl, _⟩ | ⟨g, cap, cur, rfl, hg, hh, r⟩
  · cases hb
  · cases hb
    exact ⟨hg, cur, hh⟩
theorem new_cells (w : World) (l : List Value) (t : TypeId) : ∀ (j : Nat) (u : Value), l[j]? = some u → (w.alloc (.cells l.toArray t)).cell? (Addr.add ⟨w.heap.size, 0, none⟩ j) = some u := by
  intro j u hj
  have e : Addr.add ⟨w.heap.size, 0, none⟩ j = ⟨w.heap.size, j, none⟩ := by
    unfold Addr.add
    split
    · rename_i h; rw [h]
    · simp
  rw [e, cell_of_row (w.alloc (.cells l.toArray t)) w.heap.size j l.toArray t (0, 0) (heap_alloc_new w _)]
  simpa using hj
theorem info_vi : (Try.prog.info? 58).map (fun i => (i.zero, i.size, i.bytes)) = some (some (.agg #[.string ⟨#[]⟩, .int .i64 0, .slice none 0 0]), 3, 48) := by kernel_rfl
theorem info_parts {t : TypeId} {z : Value} {n m : Nat} (h : (Try.prog.info? t).map (fun i => (i.zero, i.size, i.bytes)) = some (some z, n, m)) : ∃ i, Try.prog.info? t = some i ∧ i.zero = some z ∧ i.size = n ∧ i.bytes = m := by
  cases e : Try.prog.info? t with
  | none => rw [e] at h; cases h
  | some i =>
    rw [e] at h
    simp at h
    exact ⟨i, rfl, h.1, h.2.1, h.2.2⟩

/-- The violations so far, in rows of the call's own. -/
structure CkI (w : World) (R T : List Vr) (vr vt : Value) (W : World) : Prop where
  rr : W.ownsRow w.heap.size 58 3 vr R.length (cellsV R)
  rt : W.ownsRow w.heap.size 58 3 vt T.length (cellsV T)
  ids : ∀ x ∈ R ++ T, W.heap[x.b]? = some (.cells #[.string x.id] 9 (0, 0))
  ne : ∀ b, vr.ownBlock = some b → vt.ownBlock ≠ some b
  below : Below w.heap.size w W
theorem CkI.lift {w : World} {R T : List Vr} {vr vt : Value} {W W' : World} (h : CkI w R T vr vt W) (hb : Below W.heap.size W W') : CkI w R T vr vt W' :=
  ⟨own_below h.rr hb, own_below h.rt hb, fun x hx => blkB hb (h.ids x hx), h.ne, bto h.below hb⟩
theorem CkI.swap {w : World} {R T : List Vr} {vr vt : Value} {W : World} (h : CkI w R T vr vt W) : CkI w T R vt vr W :=
  ⟨h.rt, h.rr, fun x hx => h.ids x (by simpa [or_comm] using hx), fun b h1 h2 => h.ne b h2 h1, h.below⟩
theorem CkI.more {w : World} {R T : List Vr} {vr vt : Value} {W w' : World} {k : Int} {id : ByteArray} {b g cap : Nat} (h : CkI w R T vr vt W) (hid : W.heap[b]? = some (.cells #[.string id] 9 (0, 0)))
    (ho : w'.ownsRow w.heap.size 58 3 (.slice (some ⟨g, 0, none⟩) (R.length + 1) cap) (R.length + 1) (cellsV R ++ (Vr.mk k id b).cells)) (hg : W.grownBy w' vr.ownBlock) (hat : vr.ownBlock = some g ∨ g = W.heap.size) :
    CkI w (R ++ [⟨k, id, b⟩]) T (.slice (some ⟨g, 0, none⟩) (R ++ [(⟨k, id, b⟩ : Vr)]).length cap) vt w' := by
  have hty : ∀ (x : Nat) (i : ByteArray), W.heap[x]? = some (Obj.cells #[.string i] 9 (0, 0)) → w'.heap[x]? = some (Obj.cells #[.string i] 9 (0, 0)) := by
    intro x i hx
    refine (hg.block x (lt_of_block hx) (fun e => ?_)).trans hx
    obtain ⟨_, cur, hc⟩ := own_block h.rr e.symm
    rw [hc] at hx
    simp at hx
  refine ⟨?_, own_kept h.rt hg (fun b h1 h2 => h.ne b h2 h1), fun x hx => ?_, fun b' h1 h2 => ?_, ?_⟩
  · rw [cellsV_app, List.length_append]
    simpa [cellsV] using ho
  · simp only [List.append_assoc, List.mem_append, List.mem_cons, List.not_mem_nil, or_false] at hx
    rcases hx with hx | hx | hx
    · exact hty _ _ (h.ids x (by simp [hx]))
    · subst hx; exact hty _ _ hid
    · exact hty _ _ (h.ids x (by simp [hx]))
  · have e : g = b' := by simpa [Value.ownBlock] using h1
    subst e
    rcases hat with hat | hat
    · exact h.ne g hat h2
    · obtain ⟨_, cur, hc⟩ := own_block h.rt h2
      have := lt_of_block hc
      omega
  · exact ⟨hg.os.trans h.below.os, hg.tape.trans h.below.tape, hg.output.trans h.below.output, Nat.le_trans h.below.size hg.size, fun i hi => (hg.block i (Nat.lt_of_lt_of_le hi h.below.size) (fun e => by
      have := (own_block h.rr e.symm).1
      omega)).trans (h.below.block i hi)⟩
theorem CkI.nil {w W : World} (h : Below w.heap.size w W) : CkI w [] [] (.slice none 0 0) (.slice none 0 0) W :=
  ⟨World.ownsRow_nil _ _ _ _, World.ownsRow_nil _ _ _ _, (fun x hx => nomatch hx), (fun b h1 => by cases h1), h⟩
theorem own_slice {w : World} {B : Nat} {e : TypeId} {sz : Nat} {v : Value} {n : Nat} {xs : List Value} (h : w.ownsRow B e sz v n xs) : ∃ A c, v = .slice A n c := by
  rcases h.2 with ⟨rfl, rfl⟩ | ⟨g, cap, cur, rfl, _⟩
  · exact ⟨none, 0, rfl⟩
  · exact ⟨_, _, rfl⟩
theorem CkI.vis {w : World} {R T : List Vr} {vr vt : Value} {W : World} (h : CkI w R T vr vt W) : ViS W vr (R.map Vr.pair) := by
  obtain ⟨A, c, rfl⟩ := own_slice h.rr
  refine ⟨A, c, by rw [List.length_map], ?_⟩
  rcases h.rr.2 with ⟨hv, hn⟩ | ⟨g, cap, cur, hv, hg, hh, _⟩
  · exact .inl (by rw [List.length_eq_zero_iff.1 hn]; rfl)
  · cases hv
    refine .inr ⟨g, 0, rfl, lt_of_block hh, fun i x hi => ?_⟩
    rw [List.getElem?_map, Option.map_eq_some_iff] at hi
    obtain ⟨y, hy, rfl⟩ := hi
    obtain ⟨e1, e2, e3⟩ := cellsV_at R i y hy
    have key : ∀ j u, (cellsV R)[j]? = some u → W.cell? ⟨g, 0 + j, none⟩ = some u := by
      intro j u hj
      have := h.rr.cells (g := g) rfl j u hj
      have e : (⟨g, 0, none⟩ : Addr).add j = ⟨g, 0 + j, none⟩ := by simp only [Addr.add, Nat.zero_add]; split <;> simp_all
      rw [← e]
      exact this
    have hid := h.ids y (List.mem_append_left _ (List.mem_of_getElem? hy))
    exact ⟨y.b, key _ _ e1, key _ _ e2, key _ _ e3, lt_of_block hid, cell_of_row W _ 0 _ _ _ hid⟩
end Go.Proofs.Ytpiocaomlifljaa
