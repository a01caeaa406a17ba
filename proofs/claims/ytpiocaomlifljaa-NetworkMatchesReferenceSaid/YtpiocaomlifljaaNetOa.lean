/-
  Lists of objects that a call makes by itself: in a row, with the box of the map that holds them.
-/
import Derived.Test.YtpiocaomlifljaaNetL
import Derived.Test.YtpiocaomlifljaaNetX
namespace Go.Proofs.Ytpiocaomlifljaa
open Go.RowKit Go.Proofs.PlLex Go.Proofs.PlNet

/-- An object with the values of its lists. -/
structure OV where
  o : Ob
  rv : Value
  tv : Value
def OV.cells (x : OV) : List Value := [.string x.o.id, .int .i64 x.o.kind, .int .i64 x.o.x, .int .i64 x.o.y, x.rv, x.tv]
def cellsX : List OV → List Value
  | [] => []
  | x :: r => x.cells ++ cellsX r
theorem cellsX_app (a b : List OV) : cellsX (a ++ b) = cellsX a ++ cellsX b := by
  induction a with
  | nil => rfl
  | cons x a ih => simp only [List.cons_append, cellsX, ih, List.append_assoc]
theorem cellsX_at (r : List OV) (i : Nat) (x : OV) (h : r[i]? = some x) : ∀ j u, x.cells[j]? = some u → (cellsX r)[i * 6 + j]? = some u := by
  induction r generalizing i with
  | nil => simp at h
  | cons y r ih =>
    intro j u hj
    have hl : ∀ y : OV, y.cells.length = 6 := fun _ => rfl
    have hj6 : j < 6 := by rw [← hl x]; exact (List.getElem?_eq_some_iff.1 hj).1
    cases i with
    | zero =>
      simp at h
      subst h
      show (y.cells ++ cellsX r)[0 * 6 + j]? = _
      rw [List.getElem?_append_left (by rw [hl]; omega), show 0 * 6 + j = j by omega]
      exact hj
    | succ i =>
      have := ih i (by simpa using h) j u hj
      show (y.cells ++ cellsX r)[(i + 1) * 6 + j]? = _
      rw [List.getElem?_append_right (by rw [hl]; omega), hl, show (i + 1) * 6 + j - 6 = i * 6 + j by omega]
      exact this
/-- Do a slice's elements lie in a block that is none of two? -/
def Apart (v : Value) (bb : Nat) (row : Option Nat) {α : Type} (l : List α) : Prop := l ≠ [] → ∀ b, v.ownBlock = some b → b ≠ bb ∧ row ≠ some b
theorem StS.kept {W W' : World} {row : Option Nat} {v : Value} {l : List ByteArray} (h : StS W v l) (hg : W.grownBy W' row) (hne : l ≠ [] → ∀ b, v.ownBlock = some b → row ≠ some b) : StS W' v l := by
  obtain ⟨A, c, rfl, hc, h⟩ := h
  refine ⟨A, c, rfl, hc, ?_⟩
  by_cases hl : l = []
  · exact .inl hl
  · rcases h with h | ⟨g, o, rfl, hgl, hp⟩
    · exact .inl h
    · exact .inr ⟨g, o, rfl, Nat.lt_of_lt_of_le hgl hg.size, fun i s hi => hg.cell (hp i s hi) (fun e => hne hl g rfl e.symm)⟩
theorem TgS.kept {W W' : World} {row : Option Nat} {v : Value} {l : List Tg} (h : TgS W v l) (hg : W.grownBy W' row) (hne : l ≠ [] → ∀ b, v.ownBlock = some b → row ≠ some b) : TgS W' v l := by
  obtain ⟨A, c, rfl, h⟩ := h
  refine ⟨A, c, rfl, ?_⟩
  by_cases hl : l = []
  · exact .inl hl
  · rcases h with h | ⟨g, o, rfl, hgl, hp⟩
    · exact .inl h
    · exact .inr ⟨g, o, rfl, Nat.lt_of_lt_of_le hgl hg.size, fun i s hi => ⟨hg.cell (hp i s hi).1 (fun e => hne hl g rfl e.symm), hg.cell (hp i s hi).2 (fun e => hne hl g rfl e.symm)⟩⟩
theorem StS.own_lt {W : World} {v : Value} {l : List ByteArray} (h : StS W v l) (hl : l ≠ []) : ∀ b, v.ownBlock = some b → b < W.heap.size := by
  obtain ⟨A, c, rfl, hc, h⟩ := h
  intro b hb
  rcases h with h | ⟨g, o, rfl, hgl, hp⟩
  · exact (hl h).elim
  · cases hb; exact hgl
theorem TgS.own_lt {W : World} {v : Value} {l : List Tg} (h : TgS W v l) (hl : l ≠ []) : ∀ b, v.ownBlock = some b → b < W.heap.size := by
  obtain ⟨A, c, rfl, h⟩ := h
  intro b hb
  rcases h with h | ⟨g, o, rfl, hgl, hp⟩
  · exact (hl h).elim
  · cases hb; exact hgl
theorem grown_set (w : World) (a : Addr) (u : Value) : w.grownBy (w.setCell a u) (some a.block) :=
  ⟨rfl, rfl, rfl, by simp, fun k hk hne => Below.heap_setCell w a u k (fun e => hne (by rw [e]))⟩
/-- The objects of a map so far: in a row of the call's own, the slice in the map's box. -/
structure BoI (w1 : World) (bb : Nat) (R : List OV) (v : Value) (W : World) : Prop where
  row : W.ownsRow w1.heap.size 42 6 v R.length (cellsX R)
  box : W.heap[bb]? = some (.cells #[v] 24 (0, 0))
  ge : w1.heap.size ≤ bb
  below : Below w1.heap.size w1 W
  refs : ∀ x ∈ R, StS W x.rv x.o.refs ∧ Apart x.rv bb v.ownBlock x.o.refs
  tags : ∀ x ∈ R, TgS W x.tv x.o.tags ∧ Apart x.tv bb v.ownBlock x.o.tags
theorem BoI.lift {w1 : World} {bb : Nat} {R : List OV} {v : Value} {W W' : World} (h : BoI w1 bb R v W) (hb : Below W.heap.size W W') : BoI w1 bb R v W' :=
  ⟨own_below h.row hb, blkB hb h.box, h.ge, bto h.below hb, fun x hx => ⟨(h.refs x hx).1.below hb, (h.refs x hx).2⟩, fun x hx => ⟨(h.tags x hx).1.below hb, (h.tags x hx).2⟩⟩
theorem BoI.ne {w1 : World} {bb : Nat} {R : List OV} {v : Value} {W : World} (h : BoI w1 bb R v W) : v.ownBlock ≠ some bb := by
  intro e
  obtain ⟨_, cur, hc⟩ := own_block h.row e
  have := h.box
  rw [hc] at this
  simp at this
theorem BoI.more {w1 : World} {bb : Nat} {R : List OV} {v : Value} {W w' : World} {x : OV} {g cap : Nat} (h : BoI w1 bb R v W)
    (hr : StS W x.rv x.o.refs) (ht : TgS W x.tv x.o.tags) (ar : Apart x.rv bb v.ownBlock x.o.refs) (at' : Apart x.tv bb v.ownBlock x.o.tags)
    (ho : w'.ownsRow w1.heap.size 42 6 (.slice (some ⟨g, 0, none⟩) (R.length + 1) cap) (R.length + 1) (cellsX R ++ x.cells)) (hg : W.grownBy w' v.ownBlock) (hat : v.ownBlock = some g ∨ g = W.heap.size) :
    BoI w1 bb (R ++ [x]) (.slice (some ⟨g, 0, none⟩) (R ++ [x]).length cap) (w'.setCell ⟨bb, 0, none⟩ (.slice (some ⟨g, 0, none⟩) (R.length + 1) cap)) := by
  have hbb : bb < W.heap.size := lt_of_block h.box
  have hgb : g ≠ bb := by
    rcases hat with e | e
    · intro e2; exact h.ne (by rw [e, e2])
    · omega
  have hbox : w'.heap[bb]? = some (.cells #[v] 24 (0, 0)) := (hg.block bb hbb (fun e => h.ne e.symm)).trans h.box
  have hset := grown_set w' ⟨bb, 0, none⟩ (.slice (some ⟨g, 0, none⟩) (R.length + 1) cap)
  have hfar : ∀ {α : Type} {u : Value} {l : List α}, (l ≠ [] → ∀ b, u.ownBlock = some b → b < W.heap.size) → Apart u bb v.ownBlock l → Apart u bb (some g) l := by
    intro α u l h1 h2 hl b hb
    refine ⟨(h2 hl b hb).1, fun e => ?_⟩
    cases e
    rcases hat with e | e
    · exact (h2 hl g hb).2 e
    · have := h1 hl g hb; omega
  have keepS : ∀ {u : Value} {l : List ByteArray}, StS W u l → Apart u bb v.ownBlock l → StS (w'.setCell ⟨bb, 0, none⟩ (.slice (some ⟨g, 0, none⟩) (R.length + 1) cap)) u l ∧ Apart u bb (some g) l := fun h1 h2 =>
    ⟨(h1.kept hg (fun hl b hb => (h2 hl b hb).2)).kept hset (fun hl b hb e => (h2 hl b hb).1 (by cases e; rfl)), hfar (fun hl => h1.own_lt hl) h2⟩
  have keepT : ∀ {u : Value} {l : List Tg}, TgS W u l → Apart u bb v.ownBlock l → TgS (w'.setCell ⟨bb, 0, none⟩ (.slice (some ⟨g, 0, none⟩) (R.length + 1) cap)) u l ∧ Apart u bb (some g) l := fun h1 h2 =>
    ⟨(h1.kept hg (fun hl b hb => (h2 hl b hb).2)).kept hset (fun hl b hb e => (h2 hl b hb).1 (by cases e; rfl)), hfar (fun hl => h1.own_lt hl) h2⟩
  have hlen : (R ++ [x]).length = R.length + 1 := by simp
  rw [hlen]
  refine ⟨?_, ?_, h.ge, ?_, fun y hy => ?_, fun y hy => ?_⟩
  · rw [cellsX_app, hlen]
    have := own_kept ho hset (fun b hb e => by cases hb; cases e; exact hgb rfl)
    simpa [cellsX] using this
  · exact set_one hbox
  · refine Below.setCell ?_ h.ge _
    exact h.below.grown hg h.below.size (fun k hk => (own_block h.row hk).1)
  · rw [List.mem_append, List.mem_singleton] at hy
    rcases hy with hy | rfl
    · exact keepS (h.refs y hy).1 (h.refs y hy).2
    · exact keepS hr ar
  · rw [List.mem_append, List.mem_singleton] at hy
    rcases hy with hy | rfl
    · exact keepT (h.tags y hy).1 (h.tags y hy).2
    · exact keepT ht at'
theorem BoI.obs {w1 : World} {bb : Nat} {R : List OV} {v : Value} {W : World} (h : BoI w1 bb R v W) : ObsS W v (R.map OV.o) := by
  rcases h.row.2 with ⟨hv, hn⟩ | ⟨g, cap, cur, hv, hg, hh, hc, _⟩
  · subst hv
    rw [List.length_eq_zero_iff.1 hn]
    exact ⟨none, 0, rfl, Nat.le_refl _, .inl rfl⟩
  · subst hv
    refine ⟨some ⟨g, 0, none⟩, cap, by rw [List.length_map], by rw [List.length_map]; exact hc, .inr ⟨g, 0, rfl, lt_of_block hh, fun i ob hi => ?_⟩⟩
    rw [List.getElem?_map, Option.map_eq_some_iff] at hi
    obtain ⟨y, hy, rfl⟩ := hi
    have hm := List.mem_of_getElem? hy
    have key : ∀ j u, y.cells[j]? = some u → W.cell? ⟨g, 0 + i * 6 + j, none⟩ = some u := by
      intro j u hj
      have := h.row.cells (g := g) rfl _ u (cellsX_at R i y hy j u hj)
      have e : (⟨g, 0, none⟩ : Addr).add (i * 6 + j) = ⟨g, 0 + i * 6 + j, none⟩ := by simp only [Addr.add, Nat.zero_add]; split <;> simp_all
      rw [← e]
      exact this
    exact ⟨y.rv, y.tv, key 0 _ rfl, key 1 _ rfl, key 2 _ rfl, key 3 _ rfl, key 4 _ rfl, key 5 _ rfl, (h.refs y hm).1, (h.tags y hm).1⟩
theorem BoI.nil {w1 W : World} {bb : Nat} (hb : Below w1.heap.size w1 W) (hg : w1.heap.size ≤ bb) (hbox : W.heap[bb]? = some (.cells #[.slice none 0 0] 24 (0, 0))) : BoI w1 bb [] (.slice none 0 0) W :=
  ⟨World.ownsRow_nil _ _ _ _, hbox, hg, hb, (fun _ hx => nomatch hx), (fun _ hx => nomatch hx)⟩
theorem info_ob : (Try.prog.info? 42).map (fun i => (i.zero, i.size, i.bytes)) = some (some (.agg #[.string ⟨#[]⟩, .int .i64 0, .int .i64 0, .int .i64 0, .slice none 0 0, .slice none 0 0]), 6, 88) := by kernel_rfl
end Go.Proofs.Ytpiocaomlifljaa
