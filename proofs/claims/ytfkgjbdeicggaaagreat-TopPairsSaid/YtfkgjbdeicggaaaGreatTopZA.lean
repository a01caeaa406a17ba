/-
  The index, walked: its tree.
-/
import Derived.Test.YtfkgjbdeicggaaaGreatTopZ
import Derived.Test.YtfkgjbdeicggaaaGreatTopX
namespace Go.Proofs.YtfkgjbdeicggaaaGreat
open Go.RowKit Go.Proofs.PlLex Go.Proofs.PlNet Go.Proofs.PlMap Go.Proofs.PlGeom Go.Proofs.PlTop
attribute [local go_sem] Oper.semAt_some

/-- Boxes that have been collected from a map. -/
structure ColX (l : List (BA × Bx)) (C : List Lf) (left : BA → Bool) : Prop where
  sub : ∀ y ∈ C, (y.2, y.1) ∈ l ∧ left y.2 = false
  nd : C.Nodup
  all : ∀ x ∈ l, left x.1 = false → (x.2, x.1) ∈ C
theorem box_get {l : List (BA × Bx)} {s : BA} {v : Value} (h : getL (boxL l) s = some v) : ∃ b, (s, b) ∈ l ∧ v = bxV b := by
  unfold boxL at h
  simp only [getL, Option.map_eq_some_iff] at h
  obtain ⟨p, h1, h2⟩ := h
  have h3 := List.find?_some h1
  obtain ⟨x, hx, rfl⟩ := List.mem_map.1 (List.mem_of_find?_eq_some h1)
  exact ⟨x.2, by rw [← of_decide_eq_true h3]; exact hx, h2.symm⟩
theorem colX_start (l : List (BA × Bx)) : ColX l [] (fun s => (getL (boxL l) s).isSome) := by
  refine ⟨fun _ h => (by cases h), List.nodup_nil, fun x h1 h2 => ?_⟩
  have : (getL (boxL l) x.1).isSome = true := getL_isSome.2 ⟨_, List.mem_map.2 ⟨x, h1, rfl⟩, rfl⟩
  rw [h2] at this
  cases this
theorem ids_eq {l : List (BA × Bx)} (hnd : (l.map Prod.fst).Nodup) {x y : BA × Bx} (hx : x ∈ l) (hy : y ∈ l) (h : x.1 = y.1) : x = y := by
  induction l with
  | nil => cases hx
  | cons z l ih =>
    rw [List.map_cons, List.nodup_cons] at hnd
    obtain ⟨h1, h2⟩ := hnd
    rcases List.mem_cons.1 hx with ex | hx
    · rcases List.mem_cons.1 hy with ey | hy
      · rw [ex, ey]
      · exact absurd (List.mem_map.2 ⟨y, hy, by rw [← h, ex]⟩) h1
    · rcases List.mem_cons.1 hy with ey | hy
      · exact absurd (List.mem_map.2 ⟨x, hx, by rw [h, ey]⟩) h1
      · exact ih h2 hx hy
theorem ColX.step {l : List (BA × Bx)} {C : List Lf} {left : BA → Bool} (h : ColX l C left) (hnd : (l.map Prod.fst).Nodup) {s : BA} {b : Bx} (hl : left s = true) (hm : (s, b) ∈ l) : ColX l (C ++ [(b, s)]) (fun y => left y && !decide (y = s)) := by
  refine ⟨fun y hy => ?_, ?_, fun x h1 h2 => ?_⟩
  · rcases List.mem_append.1 hy with hy | hy
    · obtain ⟨h1, h2⟩ := h.sub y hy
      exact ⟨h1, by rw [h2]; rfl⟩
    · simp at hy
      subst hy
      exact ⟨hm, by simp⟩
  · rw [List.nodup_append]
    refine ⟨h.nd, by simp, fun x hx y hy e => ?_⟩
    simp at hy
    rw [hy] at e
    have := (h.sub x hx).2
    rw [e, hl] at this
    cases this
  · by_cases e : x.1 = s
    · have := ids_eq hnd h1 hm e
      rw [this]
      simp
    · rw [decide_eq_false e] at h2
      exact List.mem_append_left _ (h.all x h1 (by simpa using h2))
theorem nodup_of_map {α β : Type} {f : α → β} {l : List α} (h : (l.map f).Nodup) : l.Nodup := by
  rw [List.nodup_iff_pairwise_ne, List.pairwise_map] at h
  rw [List.nodup_iff_pairwise_ne]
  exact h.imp (fun h e => h (by rw [e]))
theorem ColX.perm {l : List (BA × Bx)} {C : List Lf} {left : BA → Bool} (h : ColX l C left) (hnd : (l.map Prod.fst).Nodup) (hl : ∀ x ∈ l, left x.1 = false) : C.Perm (l.map fun x => (x.2, x.1)) := by
  refine (List.perm_ext_iff_of_nodup h.nd (nodup_of_map (f := Prod.snd) (by rw [List.map_map]; exact hnd))).2 (fun y => ⟨fun hy => List.mem_map.2 ⟨_, (h.sub y hy).1, rfl⟩, fun hy => ?_⟩)
  obtain ⟨x, hx, rfl⟩ := List.mem_map.1 hy
  exact h.all x hx (hl x hx)
/-- An index in memory, packed. -/
structure IxAt (W : World) (xa bm : Nat) (l : List (BA × Bx)) (d g : Nat) (bx : Bx) (ls : List Lf) : Prop where
  box : W.heap[xa]? = some (.cells #[.map (some bm), .pointer (some ⟨g, 0, none⟩), .bool true] 148 (0, 0))
  node : NodeAt W (fun _ => False) d g bx ls
  perm : ls.Perm (l.map fun x => (x.2, x.1))
theorem IxAt.below {W W' : World} {xa bm : Nat} {l : List (BA × Bx)} {d g : Nat} {bx : Bx} {ls : List Lf} (h : IxAt W xa bm l d g bx ls) (hb : Below W.heap.size W W') : IxAt W' xa bm l d g bx ls := ⟨blkB hb h.box, h.node.kept (bgrow hb) (fun r e => by cases e), h.perm⟩
theorem tree_two (xa bm : Nat) (l : List (BA × Bx)) (d g : Nat) (bx : Bx) (ls : List Lf) (w : World) (h : IxAt w xa bm l d g bx ls) : Calls Tryz.prog 72 #[.pointer (some ⟨xa, 0, none⟩)] w fun e w' => e = .returned (.pointer (some ⟨g, 0, none⟩)) ∧ w = w' := by
  obtain ⟨⟨c0, c1, c2⟩, _⟩ := blk3 h.box
  clear h
  go_enter Tryz.func72, Tryz.ntmps72
  go_wp2_with fail
  go_ret
  exact ⟨rfl, rfl⟩
/-- Where the collecting of the boxes stands. -/
structure TrI (w0 : World) (l : List (BA × Bx)) (sv : Value) (V : List Nd) (W : World) : Prop where
  row : W.ownsRow w0.heap.size 146 1 sv V.length (V.map ndP)
  below : Below w0.heap.size w0 W
  nodes : NodesAt W (fun b => sv.ownBlock = some b) 0 V
theorem TrI.own {w0 : World} {l : List (BA × Bx)} {sv : Value} {V : List Nd} {W W' : World} (h : TrI w0 l sv V W) {row : Option Nat} (hg : W.grownBy W' row) (hr : ∀ r, row = some r → w0.heap.size ≤ r ∧ ∃ o : Obj, W.heap[r]? = some o ∧ o.isCells = false) : TrI w0 l sv V W' :=
  ⟨owns_grown h.row hg (fun r e => (hr r e).2), below_row h.below hg (fun r e => (hr r e).1), h.nodes.grown hg (fun r e => (hr r e).2)⟩
theorem TrI.lift {w0 : World} {l : List (BA × Bx)} {sv : Value} {V : List Nd} {W W' : World} (h : TrI w0 l sv V W) (hb : Below W.heap.size W W') : TrI w0 l sv V W' := h.own (bgrow hb) (fun r e => by cases e)
theorem TrI.push {w0 : World} {l : List (BA × Bx)} {sv : Value} {V : List Nd} {W w9 : World} {x : Nd} {g9 cap9 : Nat} (h : TrI w0 l sv V W) (hx : NodeAt W (fun _ => False) 0 x.g x.bx x.ls) (hx2 : sv.ownBlock ≠ some x.g) (hown : w9.ownsRow w0.heap.size 146 1 (.slice (some ⟨g9, 0, none⟩) (V.length + 1) cap9) (V.length + 1) (V.map ndP ++ [ndP x])) (hg : W.grownBy w9 sv.ownBlock) (hat : sv.ownBlock = some g9 ∨ g9 = W.heap.size) : TrI w0 l (.slice (some ⟨g9, 0, none⟩) (V.length + 1) cap9) (V ++ [x]) w9 := by
  refine ⟨by rw [List.length_append, List.map_append]; exact hown, below_row h.below hg (fun r e => (own_base h.row e).1), fun y hy => ?_⟩
  have key : ∀ {dd : Nat} {y : Nd}, NodeAt W (fun b => sv.ownBlock = some b) dd y.g y.bx y.ls → NodeAt w9 (fun b => (Value.slice (some ⟨g9, 0, none⟩) (V.length + 1) cap9).ownBlock = some b) dd y.g y.bx y.ls := fun hy => by
    have k1 := hy.more (Y := fun b => sv.ownBlock = some b ∨ (Value.slice (some ⟨g9, 0, none⟩) (V.length + 1) cap9).ownBlock = some b) (fun b hb hY => hY.elim id (fun e => by
      have e2 : g9 = b := Option.some.inj e
      rcases hat with h1 | h1
      · rw [← e2]; exact h1
      · omega))
    exact (k1.kept hg (fun r e => .inl e)).more (fun b _ e => .inr e)
  rcases List.mem_append.1 hy with hy | hy
  · exact key (h.nodes y hy)
  · simp at hy
    rw [hy]
    obtain ⟨_, k2, id, k3, k4⟩ := hx
    exact key ⟨hx2, k2, id, k3, k4⟩
theorem tree_range {w8 w9 : World} {B b r cnt : Nat} {bl : List (BA × Value)} {left : BA → Bool} {v : Value} {n : Nat} {xs : List Value} (h : RangeL (strKeys Tryz.prog 9 Tryz.underlying9) w8 b r bl left cnt) (hro : w8.ownsRow B 146 1 v n xs) (hg : w8.grownBy w9 v.ownBlock) : RangeL (strKeys Tryz.prog 9 Tryz.underlying9) w9 b r bl left cnt :=
  h.kept hg (fun e => own_ne_map hro (map_blk h.map) e.symm) (fun e => own_ne_iter hro (range_blk h) e.symm)
theorem leaf_at {W : World} {b : Bx} {s : BA} {g : Nat} (hb : okX b) (h : W.heap[g]? = some (.cells #[.int .i64 b.x0, .int .i64 b.y0, .int .i64 b.x1, .int .i64 b.y1, .string s, .slice none 0 0] 155 (0, 0))) : NodeAt W (fun _ => False) 0 g b [(b, s)] := ⟨id, hb, s, rfl, h⟩
/-- The root has been stored. -/
theorem root_set {w W : World} {xa bm d : Nat} {l : List (BA × Bx)} {x : Nd} (hx : w.heap[xa]? = some (.cells #[.map (some bm), .pointer none, .bool false] 148 (0, 0))) (hb : Below w.heap.size w W) (hn : NodeAt W (fun _ => False) d x.g x.bx x.ls) (hp : x.ls.Perm (l.map fun x => (x.2, x.1))) : IxAt ((W.setCell ⟨xa, 1, none⟩ (.pointer (some ⟨x.g, 0, none⟩))).setCell ⟨xa, 2, none⟩ (.bool true)) xa bm l d x.g x.bx x.ls ∧ w.grownBy ((W.setCell ⟨xa, 1, none⟩ (.pointer (some ⟨x.g, 0, none⟩))).setCell ⟨xa, 2, none⟩ (.bool true)) (some xa) := by
  have hs : ∀ (V : World) (o : Nat) (v : Value), V.grownBy (V.setCell ⟨xa, o, none⟩ v) (some xa) := fun V o v => ⟨rfl, rfl, rfl, by simp, fun k _ hne => Below.heap_setCell V ⟨xa, o, none⟩ v k (fun e => hne (by rw [e]))⟩
  have hW := blkB hb hx
  have h1 : (W.setCell ⟨xa, 1, none⟩ (.pointer (some ⟨x.g, 0, none⟩))).heap[xa]? = some (.cells #[.map (some bm), .pointer (some ⟨x.g, 0, none⟩), .bool false] 148 (0, 0)) := by
    rw [Sort.setCell_eq]
    simp [Sort.mapBlock, Array.getElem?_modify, hW, Sort.onCells]
  have h2 : ((W.setCell ⟨xa, 1, none⟩ (.pointer (some ⟨x.g, 0, none⟩))).setCell ⟨xa, 2, none⟩ (.bool true)).heap[xa]? = some (.cells #[.map (some bm), .pointer (some ⟨x.g, 0, none⟩), .bool true] 148 (0, 0)) := by
    rw [Sort.setCell_eq]
    simp [Sort.mapBlock, Array.getElem?_modify, h1, Sort.onCells]
  have hg := gby_trans (hs W 1 (.pointer (some ⟨x.g, 0, none⟩))) (hs (W.setCell ⟨xa, 1, none⟩ (.pointer (some ⟨x.g, 0, none⟩))) 2 (.bool true))
  have ha := NodeAt.avoid (B := xa) (cell_of_row W _ 0 _ _ _ hW) (fun a e => by cases e) (fun cs f e => by rw [hW] at e; cases e) hn
  refine ⟨⟨h2, (ha.kept hg (fun r e => .inr (Option.some.inj e).symm)).more (fun b _ h => h.elim), hp⟩, gby_trans ((bgrow hb).but xa) hg⟩
set_option maxRecDepth 100000 in
set_option maxHeartbeats 8000000 in
theorem tree_any (xa bm : Nat) (l : List (BA × Bx)) (w : World) (h : IxU w xa bm l) (hl0 : 1 ≤ l.length) (hl : l.length ≤ 1000) (hnd : (l.map Prod.fst).Nodup) (hok : ∀ x ∈ l, okX x.2) (hsz : ∀ x ∈ l, x.1.size ≤ 100000) :
    Calls Tryz.prog 72 #[.pointer (some ⟨xa, 0, none⟩)] w fun e w' => ∃ d g bx ls, e = .returned (.pointer (some ⟨g, 0, none⟩)) ∧ IxAt w' xa bm l d g bx ls ∧ w.grownBy w' (some xa) := by
  obtain ⟨j0, hj, hy0, hy1, hy2⟩ := info_parts3 info_node
  have HJ0 := hide hj
  have HY0 := hide hy0
  have HY1 := hide hy1
  have HY2 := hide hy2
  clear hj hy0 hy1 hy2
  obtain ⟨⟨c0, c1, c2⟩, _⟩ := blk3 h.box
  obtain ⟨w10, hr10, hrg10, hg10, hs10⟩ := h.map.range Tryz.underlying145
  have hb10 : Below w.heap.size w w10 := ⟨hg10.os, hg10.tape, hg10.output, hg10.size, fun i hi => hg10.block i hi (by simp)⟩
  have HB10 := hide hb10
  have HRG10 := hide hrg10
  have HH := hide h
  have HND := hide hnd
  have HOK := hide hok
  have HSZ := hide hsz
  have HL := hide hl
  have HL0 := hide hl0
  have HBL : Hid ((boxL l).length = l.length) := hide (List.length_map ..)
  have HXM : Hid (xa < w.heap.size ∧ bm < w.heap.size) := hide ⟨lt_of_block h.box, lt_of_block (map_blk h.map).choose_spec.choose_spec⟩
  clear hrg10 hg10 hs10 hb10 h hnd hok hl hl0 hsz
  go_enter Tryz.func72, Tryz.ntmps72
  go_wp2_with fail
  have HT0 : Hid (TrI w l (.slice none 0 0) [] w10) := hide ⟨World.ownsRow_nil _ _ _ _, HB10.out, fun x hx => (by cases hx)⟩
  go_loopw [3] (fun vo wr => ∃ (V : List Nd) (left : BA → Bool) (cnt : Nat) (Ao : Option Addr) (co : Nat), vo = .slice Ao V.length co ∧ V.length + cnt ≤ l.length ∧ Hid (ColX l (leavesN V) left ∧ (leavesN V).length = V.length) ∧ Hid (RangeL (strKeys Tryz.prog 9 Tryz.underlying9) wr bm w.heap.size (boxL l) left cnt) ∧ Hid (TrI w l (.slice Ao V.length co) V wr)) (fun _ wr => wr.rangeLeft bm w.heap.size)
  case atStart => exact ⟨[], _, (boxL l).length, none, 0, rfl, by rw [HBL.out]; simp, hide ⟨colX_start l, rfl⟩, HRG10, HT0⟩
  case round =>
    clear HRG10 HT0 HB10 c0 c1 c2
    obtain ⟨V, left, cnt, Ao, co, rfl, hcn, hco, hrg, hti⟩ := hrel
    rcases hrg.out.next with ⟨hc0, hl0, hnx⟩ | ⟨s, v, w5, cnt', _, hlx, hgx, hnx, hrg5, hlt5, hg5, hs5, hen⟩
    · have hpm := hco.out.1.perm HND.out (fun x hx => hl0 x.1 (Nat.le_trans (HSZ.out x hx) (by unfold maxLen; omega)))
      have hlen := hpm.length_eq
      rw [List.length_map, hco.out.2] at hlen
      have HPM := hide hpm
      have HPK := hide (pack_any 0 V (.slice Ao V.length co) w wr hti.out.row hti.out.below hti.out.nodes (by have := HL0.out; omega) (by have := HL.out; omega))
      clear hpm hlen hl0 hrg hco hti hcn
      go_wp2_with (go_at_call 123; refine HPK.out.mono ?_; rintro _ w7 ⟨d, x, rfl, hn7, hp7, hb7⟩; have HN7 := hide hn7; have HP7 := hide hp7; have HB7 := hide hb7; obtain ⟨⟨c0, c1, c2⟩, f0, f1, f2⟩ := blk3 (blkB hb7 HH.out.box); clear hn7 hp7 hb7; unfold ndP)
      have HRS := hide (root_set HH.out.box HB7.out HN7.out (HP7.out.trans HPM.out))
      go_ret
      exact ⟨d, x.g, x.bx, x.ls, rfl, HRS.out.1, HRS.out.2⟩
    · obtain ⟨b, hmb, rfl⟩ := box_get hgx
      have hit := range_blk hrg.out
      change ∀ ty, (Instr.next (.pointer (some ⟨w.heap.size, 0, none⟩)) false ty).run Tryz.prog wr = .ok (.tuple #[.bool true, .string s, bxV b]) w5 at hnx
      unfold bxV bxC at hnx
      change (Instr.entry (.pointer (some ⟨w.heap.size, 0, none⟩))).run Tryz.prog w5 = .ok (.tuple #[.string s, bxV b]) w5 at hen
      unfold bxV bxC at hen
      have hti5 := hti.out.own hg5 (fun r e => by
        obtain ⟨m, s', e', c', hi⟩ := hit
        rw [← Option.some.inj e]
        exact ⟨Nat.le_refl _, _, hi, rfl⟩)
      obtain ⟨w6, hw6⟩ : ∃ w6, w5.alloc (.cells #[.int .i64 b.x0, .int .i64 b.y0, .int .i64 b.x1, .int .i64 b.y1] 65) = w6 := ⟨_, rfl⟩
      obtain ⟨w7, hw7⟩ : ∃ w7, w6.alloc (.cells #[.int .i64 b.x0, .int .i64 b.y0, .int .i64 b.x1, .int .i64 b.y1, .string s, .slice none 0 0] 155) = w7 := ⟨_, rfl⟩
      obtain ⟨w8, hw8⟩ : ∃ w8, w7.alloc (.cells #[.pointer (some ⟨w6.heap.size, 0, none⟩)] 146) = w8 := ⟨_, rfl⟩
      have hb6 : Below w5.heap.size w5 w6 := by rw [← hw6]; exact (Below.refl _ _).alloc (Nat.le_refl _) _
      have hb7 : Below w6.heap.size w6 w7 := by rw [← hw7]; exact (Below.refl _ _).alloc (Nat.le_refl _) _
      have hb8 : Below w7.heap.size w7 w8 := by rw [← hw8]; exact (Below.refl _ _).alloc (Nat.le_refl _) _
      have hbx : w6.heap[w5.heap.size]? = some (.cells #[.int .i64 b.x0, .int .i64 b.y0, .int .i64 b.x1, .int .i64 b.y1] 65 (0, 0)) := by rw [← hw6]; exact heap_alloc_new _ _
      have hnx7 : w7.heap[w6.heap.size]? = some (.cells #[.int .i64 b.x0, .int .i64 b.y0, .int .i64 b.x1, .int .i64 b.y1, .string s, .slice none 0 0] 155 (0, 0)) := by rw [← hw7]; exact heap_alloc_new _ _
      have HN8 := hide (leaf_at (HOK.out _ hmb) (blkB hb8 hnx7))
      have HNW : Hid (∀ (j : Nat) (u : Value), [(Value.pointer (some ⟨w6.heap.size, 0, none⟩))][j]? = some u → w8.cell? ((⟨w7.heap.size, 0, none⟩ : Addr).add j) = some u) := hide (fun j u hj => by rw [← hw8]; exact World.news_of_block (cs := #[.pointer (some ⟨w6.heap.size, 0, none⟩)]) (t := 146) (fr := (0, 0)) (heap_alloc_new w7 _) j u hj)
      have hb58 : Below w5.heap.size w5 w8 := bto (bto hb6 hb7) hb8
      have HTI8 := hide (hti5.lift hb58)
      have HRG8 : Hid (RangeL (strKeys Tryz.prog 9 Tryz.underlying9) w8 bm w.heap.size (boxL l) (fun y => left y && !decide (y = s)) cnt') := hide (hrg5.kept (bgrow hb58) (by simp) (by simp))
      have HX2 : Hid ((Value.slice Ao V.length co).ownBlock ≠ some w6.heap.size) := hide (fun e => by
        obtain ⟨_, cur, hc⟩ := own_block hti5.row e
        have := lt_of_block hc
        have := hb6.size
        omega)
      have HCO := hide (hco.out.1.step HND.out hlx hmb)
      have HC2 := hide hco.out.2
      have HS8 : Hid (w.heap.size ≤ w8.heap.size) := hide HTI8.out.below.size
      have hvl : V.length ≤ 1000 := by have := HL.out; omega
      have HCN := hide (show V.length + 1 + cnt' ≤ l.length by omega)
      have HMS : Hid (∀ W, RangeL (strKeys Tryz.prog 9 Tryz.underlying9) W bm w.heap.size (boxL l) (fun y => left y && !decide (y = s)) cnt' → W.rangeLeft bm w.heap.size < wr.rangeLeft bm w.heap.size) := hide (fun W h => by rw [h.left_eq, hrg.out.left_eq]; exact hlt5)
      have e0 := cell_of_row _ _ 0 _ _ _ hbx
      have e1 := cell_of_row _ _ 1 _ _ _ hbx
      have e2 := cell_of_row _ _ 2 _ _ _ hbx
      have e3 := cell_of_row _ _ 3 _ _ _ hbx
      have hz8 : w8.heap.size = w7.heap.size + 1 := by rw [← hw8]; simp
      clear hti hti5 hrg hco hit hb6 hb7 hb8 hbx hnx7 hb58 hrg5 hlt5 hg5 hs5 hlx hgx hcn hmb
      go_upto_region 6 with (fail)
      clear hnx hen
      have HZ8 := hide hz8
      clear hz8
      go_wp2_with (at_builtin; go_must (refine wpList_append_lies _ rfl (.tmp 21) (.tmp 26) 153 rfl w.heap.size 146 j0 (.pointer none) 1 8 Tryz.underlying153 HJ0.out HY0.out HY1.out HY2.out rfl (by decide) (.slice Ao V.length co) V.length (V.map ndP) rfl HTI8.out.row ⟨w7.heap.size, 0, none⟩ 1 1 [.pointer (some ⟨w6.heap.size, 0, none⟩)] rfl rfl HNW.out (fun u hu => by simp at hu; rw [hu]; rfl) (by decide) (by unfold maxLen; omega) (by omega) HS8.out (w7.heap.size + 1) HZ8.out ?_))
      intro g9 cap w9 hown9 hgrow9 hat9 _
      have HTI9 := hide (HTI8.out.push (x := ⟨w6.heap.size, b, [(b, s)]⟩) HN8.out HX2.out hown9 hgrow9 (by rw [HZ8.out]; exact hat9))
      have HRG9 := hide (tree_range HRG8.out HTI8.out.row hgrow9)
      clear hown9 hgrow9 hat9 HTI8 HRG8 HNW HN8
      have HLV : Hid (leavesN (V ++ [(⟨w6.heap.size, b, [(b, s)]⟩ : Nd)]) = leavesN V ++ [(b, s)]) := hide (by rw [leavesN_app]; rfl)
      have HLE9 := hide (show Value.slice (some ⟨g9, 0, none⟩) (V.length + 1) cap = .slice (some ⟨g9, 0, none⟩) (V ++ [(⟨w6.heap.size, b, [(b, s)]⟩ : Nd)]).length cap by simp)
      go_wp2_with fail
      refine ⟨⟨V ++ [(⟨w6.heap.size, b, [(b, s)]⟩ : Nd)], _, cnt', _, _, HLE9.out, by have := HCN.out; simp; omega, hide ⟨by rw [HLV.out]; exact HCO.out, by rw [HLV.out]; simp [HC2.out]⟩, HRG9, by rw [← HLE9.out]; exact HTI9⟩, HMS.out _ HRG9.out⟩
end Go.Proofs.YtfkgjbdeicggaaaGreat
