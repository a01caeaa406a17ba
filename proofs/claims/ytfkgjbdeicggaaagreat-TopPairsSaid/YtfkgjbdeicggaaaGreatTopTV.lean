/-
  Packing's closures, its sorts, the clone of a slice of nodes, walked. Packing the index, walked: what it makes of a row of nodes. Packing the index: its memory.
-/
import Derived.Test.YtfkgjbdeicggaaaGreatTopR
import Derived.Test.YtfkgjbdeicggaaaGreatTopS
import Derived.Laws.Cover3
/-! Packing's closures, its sorts, the clone of a slice of nodes, walked. -/
namespace Go.Proofs.YtfkgjbdeicggaaaGreat
open Go.RowKit Go.Proofs.PlLex Go.Proofs.PlNet Go.Proofs.PlMap Go.Proofs.PlGeom Go.Proofs.PlTop
attribute [local go_sem] Oper.semAt_some

/-- Two nodes in their blocks. -/
structure TwN (w : World) (g1 g2 : Nat) (c1 c2 : Array Value) (W : World) : Prop where
  grows : Grows w W
  b1 : W.heap[g1]? = some (.cells c1 155 (0, 0))
  b2 : W.heap[g2]? = some (.cells c2 155 (0, 0))
theorem TwN.more {w : World} {g1 g2 : Nat} {c1 c2 : Array Value} {W W' : World} (h : TwN w g1 g2 c1 c2 W) (hg : Grows W W') : TwN w g1 g2 c1 c2 W' := by
  have key : ∀ {i : Nat} {o : Obj}, W.heap[i]? = some o → W'.heap[i]? = some o := fun {i o} hi => (hg.below.block i (Array.getElem?_eq_some_iff.1 hi).1).trans hi
  exact ⟨h.grows.trans hg, key h.b1, key h.b2⟩
theorem wrap_in {n : Int} (h : -4611686018427387904 ≤ n ∧ n ≤ 4611686018427387904) : IntKind.i64.wrap n = n := IntWalk.i64_in _ (by omega)
set_option maxRecDepth 100000 in
set_option maxHeartbeats 8000000 in
theorem less_x (x y : Nd) (id1 id2 : BA) (p1 p2 : Value) (w : World) (hx : w.heap[x.g]? = some (.cells (ndC x.bx id1 p1) 155 (0, 0))) (hy : w.heap[y.g]? = some (.cells (ndC y.bx id2 p2) 155 (0, 0))) (ox : okX x.bx) (oy : okX y.bx) :
    Calls Tryz.prog 175 #[ndP x, ndP y] w fun e w' => e = .returned (.int .i64 (cfX x y)) ∧ Grows w w' := by
  obtain ⟨g1, ⟨x0, y0, x1, y1⟩, l1⟩ := x
  obtain ⟨g2, ⟨u0, v0, u1, v1⟩, l2⟩ := y
  unfold ndP
  have HCF : Hid (cfX ⟨g1, ⟨x0, y0, x1, y1⟩, l1⟩ ⟨g2, ⟨u0, v0, u1, v1⟩, l2⟩ = if cmpI (x0 + x1) (u0 + u1) = 0 then cmpI (y0 + y1) (v0 + v1) else cmpI (x0 + x1) (u0 + u1)) := hide rfl
  unfold okX at ox oy
  unfold ndC at hx hy
  simp only at hx hy ox oy
  obtain ⟨a, ha⟩ : ∃ a, a = x0 + x1 := ⟨_, rfl⟩
  obtain ⟨b, hb⟩ : ∃ b, b = u0 + u1 := ⟨_, rfl⟩
  obtain ⟨c, hc⟩ : ∃ c, c = y0 + y1 := ⟨_, rfl⟩
  obtain ⟨d, hd⟩ : ∃ d, d = v0 + v1 := ⟨_, rfl⟩
  have w1 : IntKind.i64.wrap (x0 + x1) = a := by rw [wrap_in (by omega), ha]
  have w2 : IntKind.i64.wrap (u0 + u1) = b := by rw [wrap_in (by omega), hb]
  have w3 : IntKind.i64.wrap (y0 + y1) = c := by rw [wrap_in (by omega), hc]
  have w4 : IntKind.i64.wrap (v0 + v1) = d := by rw [wrap_in (by omega), hd]
  rw [← ha, ← hb, ← hc, ← hd] at HCF
  have HX := hide (fun W => cmp_any a b W)
  have HY := hide (fun W => cmp_any c d W)
  have HT : Hid (TwN w g1 g2 _ _ w) := hide ⟨Grows.refl _, hx, hy⟩
  have KEY : Hid (∀ W, TwN w g1 g2 #[.int .i64 x0, .int .i64 y0, .int .i64 x1, .int .i64 y1, .string id1, p1] #[.int .i64 u0, .int .i64 v0, .int .i64 u1, .int .i64 v1, .string id2, p2] W → ((W.cell? ⟨g1, 0, none⟩ = some (.int .i64 x0) ∧ W.cell? ⟨g1, 1, none⟩ = some (.int .i64 y0) ∧ W.cell? ⟨g1, 2, none⟩ = some (.int .i64 x1) ∧ W.cell? ⟨g1, 3, none⟩ = some (.int .i64 y1)) ∧ (W.cell? ⟨g2, 0, none⟩ = some (.int .i64 u0) ∧ W.cell? ⟨g2, 1, none⟩ = some (.int .i64 v0) ∧ W.cell? ⟨g2, 2, none⟩ = some (.int .i64 u1) ∧ W.cell? ⟨g2, 3, none⟩ = some (.int .i64 v1)))) := hide (fun W h => by
    obtain ⟨c0, c1, c2, c3, _, _⟩ := box6n h.b1
    obtain ⟨d0, d1, d2, d3, _, _⟩ := box6n h.b2
    exact ⟨⟨c0, c1, c2, c3⟩, d0, d1, d2, d3⟩)
  generalize cfX ⟨g1, ⟨x0, y0, x1, y1⟩, l1⟩ ⟨g2, ⟨u0, v0, u1, v1⟩, l2⟩ = R at *
  clear ha hb hc hd hx hy ox oy
  go_enter Tryz.func175, Tryz.ntmps175
  go_upto_region 1 with (fail)
  have HTD := hide (HT.out.more (Grows.refl _).drew)
  go_region_held3 (fun w' => TwN w g1 g2 #[.int .i64 x0, .int .i64 y0, .int .i64 x1, .int .i64 y1, .string id1, p1] #[.int .i64 u0, .int .i64 v0, .int .i64 u1, .int .i64 v1, .string id2, p2] w' ∧ ((w'.cell? ⟨g1, 0, none⟩ = some (.int .i64 x0) ∧ w'.cell? ⟨g1, 1, none⟩ = some (.int .i64 y0) ∧ w'.cell? ⟨g1, 2, none⟩ = some (.int .i64 x1) ∧ w'.cell? ⟨g1, 3, none⟩ = some (.int .i64 y1)) ∧ (w'.cell? ⟨g2, 0, none⟩ = some (.int .i64 u0) ∧ w'.cell? ⟨g2, 1, none⟩ = some (.int .i64 v0) ∧ w'.cell? ⟨g2, 2, none⟩ = some (.int .i64 u1) ∧ w'.cell? ⟨g2, 3, none⟩ = some (.int .i64 v1))))
    (with_reducible (first | exact ⟨HTD.out, KEY.out _ HTD.out⟩ | exact ⟨HT.out.more (((Grows.refl _).alloc _).drew), KEY.out _ (HT.out.more (((Grows.refl _).alloc _).drew))⟩ | exact ⟨TwN.more (And.left (by assumption)) ((Grows.refl _).alloc _), KEY.out _ (TwN.more (And.left (by assumption)) ((Grows.refl _).alloc _))⟩))
    (first
      | (go_at_call 63; first | ((with_reducible refine (HX.out _).mono ?_); rintro _ _ ⟨rfl, rfl⟩) | ((with_reducible refine (HY.out _).mono ?_); rintro _ _ ⟨rfl, rfl⟩))
      | (go_at_call 62; (refine (or_new (cmpI a b) (cmpI c d) _ HCF.out _).mono ?_); rintro _ _ ⟨rfl, rfl⟩))
  all_goals
    have HT := And.left (by assumption)
    have HG := hide HT.grows
    clear HT
    go_wp2_with fail
    go_ret
    exact ⟨rfl, HG.out⟩
set_option maxRecDepth 100000 in
set_option maxHeartbeats 8000000 in
theorem less_y (x y : Nd) (id1 id2 : BA) (p1 p2 : Value) (w : World) (hx : w.heap[x.g]? = some (.cells (ndC x.bx id1 p1) 155 (0, 0))) (hy : w.heap[y.g]? = some (.cells (ndC y.bx id2 p2) 155 (0, 0))) (ox : okX x.bx) (oy : okX y.bx) :
    Calls Tryz.prog 177 #[ndP x, ndP y] w fun e w' => e = .returned (.int .i64 (cfY x y)) ∧ Grows w w' := by
  obtain ⟨g1, ⟨x0, y0, x1, y1⟩, l1⟩ := x
  obtain ⟨g2, ⟨u0, v0, u1, v1⟩, l2⟩ := y
  unfold ndP cfY keyY
  unfold okX at ox oy
  unfold ndC at hx hy
  simp only at hx hy ox oy ⊢
  obtain ⟨c, hc⟩ : ∃ c, c = y0 + y1 := ⟨_, rfl⟩
  obtain ⟨d, hd⟩ : ∃ d, d = v0 + v1 := ⟨_, rfl⟩
  have w3 : IntKind.i64.wrap (y0 + y1) = c := by rw [wrap_in (by omega), hc]
  have w4 : IntKind.i64.wrap (v0 + v1) = d := by rw [wrap_in (by omega), hd]
  rw [← hc, ← hd]
  have HY := hide (fun W => (cmp_any c d W).mono (fun _ _ h => (⟨h.1, h.2.symm⟩ : _ ∧ _)))
  obtain ⟨c0, c1, c2, c3, _, _⟩ := box6n hx
  obtain ⟨d0, d1, d2, d3, _, _⟩ := box6n hy
  clear hc hd hx hy ox oy
  go_enter Tryz.func177, Tryz.ntmps177
  go_upto_region 1 with (fail)
  go_quiet (first | (go_at_call 63; exact Calls.quiet_of_same (HY.out _)))
  go_wp2_with fail
  go_ret
  exact ⟨rfl, (Grows.refl _).drewN _⟩
/-- The library's sort of a part of a row of nodes. -/
theorem sort_nodes (F : Nat) (cf : Nd → Nd → Int) (hcf : cf = cfX ∨ cf = cfY) (eg : ∀ args w, (callFunc F args).run Tryz.prog w = .ok (.enter F args) w)
    (hless : ∀ (x y : Nd) (id1 id2 : BA) (p1 p2 : Value) (w : World), w.heap[x.g]? = some (.cells (ndC x.bx id1 p1) 155 (0, 0)) → w.heap[y.g]? = some (.cells (ndC y.bx id2 p2) 155 (0, 0)) → okX x.bx → okX y.bx → Calls Tryz.prog F #[ndP x, ndP y] w fun e w' => e = .returned (.int .i64 (cf x y)) ∧ Grows w w')
    (X : Nat → Prop) (dp : Nat) (L : List Nd) (B g cap cap2 o m : Nat) (W : World) (h : W.ownsRow B 146 1 (.slice (some ⟨g, 0, none⟩) L.length cap) L.length (L.map ndP)) (hX : X g) (hn : NodesAt W X dp L) (ho : o + m ≤ L.length) (h1 : 1 ≤ m) (hlen : L.length ≤ 1000000) :
    Calls Tryz.prog 174 #[.slice (some ⟨g, o, none⟩) m cap2, .func (Fn.func F) #[] #[]] W fun e w' => e = .returned (.tuple #[]) ∧ ∃ C : List Nd, C.Perm (subL L o m) ∧ w'.ownsRow B 146 1 (.slice (some ⟨g, 0, none⟩) L.length cap) L.length ((putS L o C).map ndP) ∧ W.grownBy w' (some g) := by
  have hsl := subL_len L ho
  have hmem : ∀ x ∈ subL L o m, NodeAt W X dp x.g x.bx x.ls := fun x hx => hn x (List.mem_of_mem_drop (List.mem_of_mem_take hx))
  have x0 : ∃ x, x ∈ subL L o m := by
    cases hs : subL L o m with
    | nil => rw [hs] at hsl; simp at hsl; omega
    | cons x r => exact ⟨x, List.mem_cons_self ..⟩
  obtain ⟨x0, hx0⟩ := x0
  letI : Inhabited {x : Nd // NodeAt W X dp x.g x.bx x.ls} := ⟨⟨x0, hmem x0 hx0⟩⟩
  have hsz := subA_size (subL L o m) hmem
  rw [hsl] at hsz
  have hll : (L.map ndP).length = L.length := List.length_map ..
  rw [← hll] at h ho
  have hd : subL (L.map ndP) o (subA (subL L o m) hmem).size = (subA (subL L o m) hmem).toList.map (fun x : {x : Nd // NodeAt W X dp x.g x.bx x.ls} => ndP x.1) := by
    rw [hsz, ← subL_map]
    exact (congrArg (List.map ndP) (subA_val (subL L o m) hmem).symm).trans (by rw [List.map_map]; rfl)
  obtain ⟨hg, hH, hw⟩ := sort_part (enc := fun x : {x : Nd // NodeAt W X dp x.g x.bx x.ls} => ndP x.1) (subA (subL L o m) hmem) h (by rw [hsz]; exact ho) hd
  have hcon := Any.slices_SortFunc Tryz.sortNodes (fun x : {x : Nd // NodeAt W X dp x.g x.bx x.ls} => ndP x.1) (fun x => rfl) (fun x y => cf x.1 y.1) (swoN (fun x : {x : Nd // NodeAt W X dp x.g x.bx x.ls} => x.1) cf hcf) F #[] g o cap2 (subA (subL L o m) hmem) W eg
    (fun n os dk hdk x y => by
      have hg2 := (hw dk n os hdk).2
      have hx := x.2.kept hg2 (fun r e => by cases e; exact hX)
      have hy := y.2.kept hg2 (fun r e => by cases e; exact hX)
      obtain ⟨i1, p1, hx1, _⟩ := hx.cells
      obtain ⟨i2, p2, hy1, _⟩ := hy.cells
      exact hless x.1 y.1 i1 i2 p1 p2 _ hx1 hy1 hx.ok hy.ok) hH hg (by rw [hsz]; omega)
  rw [hsz] at hcon
  refine hcon.mono ?_
  rintro e w' ⟨rfl, d', n, os, hp, hs, rfl⟩
  have hp2 : Sort.PermIn 0 (subA (subL L o m) hmem).size (subA (subL L o m) hmem) d' := by rw [hsz]; exact hp
  obtain ⟨hd', hpm⟩ := perm_all hp2
  obtain ⟨hr, hgr⟩ := hw d' n os hd'
  refine ⟨rfl, d'.toList.map Subtype.val, by rw [subA_val] at hpm; exact hpm, ?_, hgr⟩
  rw [hll] at hr
  rw [putS_map, List.map_map]
  exact hr
end Go.Proofs.YtfkgjbdeicggaaaGreat

/-! Packing the index, walked: what it makes of a row of nodes. -/
namespace Go.Proofs.YtfkgjbdeicggaaaGreat
open Go.RowKit Go.Proofs.PlLex Go.Proofs.PlNet Go.Proofs.PlMap Go.Proofs.PlGeom Go.Proofs.PlTop
attribute [local go_sem] Oper.semAt_some

theorem info_node : (Tryz.prog.info? 146).map (fun i => (i.zero, i.size, i.bytes)) = some (some (.pointer none), 1, 8) := by kernel_rfl
theorem eql_nil (p : Option Addr) (n c : Nat) (w : World) : (binOp .eql 153 (.slice p n c) (.slice none 0 0)).run Tryz.prog w = .ok (.bool p.isNone) w := by
  simp only [binOp]
  simp [run_equal_slice_nil w 153 146 p n c Tryz.underlying153]
set_option maxRecDepth 100000 in
set_option maxHeartbeats 4000000 in
theorem clone_any (C : List Nd) (g o c : Nat) (W : World) (hC : 1 ≤ C.length) (hcells : ∀ (i : Nat) x, C[i]? = some x → W.cell? ⟨g, o + i, none⟩ = some (ndP x)) (hg : g < W.heap.size) (hl : C.length ≤ 1000000) :
    Calls Tryz.prog 178 #[.slice (some ⟨g, o, none⟩) C.length c] W fun e w' => ∃ p cap, e = .returned (.slice (some ⟨p, 0, none⟩) C.length cap) ∧ W.heap.size ≤ p ∧ w'.ownsRow W.heap.size 146 1 (.slice (some ⟨p, 0, none⟩) C.length cap) C.length (C.map ndP) ∧ Below W.heap.size W w' := by
  obtain ⟨i0, hi0, hz0, hz1, hz2⟩ := info_parts3 info_node
  have HI0 := hide hi0
  have HZ0 := hide hz0
  have HZ1 := hide hz1
  have HZ2 := hide hz2
  have HC := hide hcells
  have HN := eql_nil (some ⟨g, o, none⟩) C.length c W
  clear hi0 hz0 hz1 hz2 hcells
  go_enter Tryz.func178, Tryz.ntmps178
  go_wp2_with (at_builtin; go_must (refine wpList_append_lies _ rfl (.tmp 5) (.tmp 6) 153 rfl W.heap.size 146 i0 (.pointer none) 1 8 Tryz.underlying153 HI0.out HZ0.out HZ1.out HZ2.out rfl (by decide) (.slice (some ⟨W.heap.size, 0, none⟩) 0 0) 0 [] rfl ?c0 ⟨g, o, none⟩ C.length c (C.map ndP) rfl ?c7 ?c1 ?c2 hC ?c3 ?c4 ?c5 (W.heap.size + 1) ?c6 ?_))
  case c0 => exact World.ownsRow_lit W #[] 0 (Nat.le_refl _) (by unfold maxLen; omega) rfl
  case c7 => simp
  case c1 =>
    intro j u hj
    rw [List.getElem?_map] at hj
    obtain ⟨x, hx, rfl⟩ := Option.map_eq_some_iff.1 hj
    have e : (⟨g, o, none⟩ : Addr).add j = ⟨g, o + j, none⟩ := by simp only [Addr.add]; split <;> simp_all
    rw [e]
    exact (((Below.refl _ W).alloc (Nat.le_refl _) (.cells #[] 146)).cell (p := ⟨g, o + j, none⟩) hg).trans (HC.out j x hx)
  case c2 =>
    intro u hu
    obtain ⟨x, _, rfl⟩ := List.mem_map.1 hu
    rfl
  case c3 => unfold maxLen; omega
  case c4 => omega
  case c5 => simp
  case c6 => simp
  intro g9 cap w9 hown9 hgrow9 hat9 _
  have HO9 := hide hown9
  have HB9 := hide (below_row ((Below.refl _ W).alloc (Nat.le_refl _) (.cells #[] 146)) hgrow9 (fun r hr => by simp [Value.ownBlock] at hr; omega))
  clear hown9 hgrow9 hat9 HC
  go_wp2_with fail
  go_ret
  exact ⟨g9, cap, rfl, (own_base HO9.out rfl).1, HO9.out, HB9.out⟩
end Go.Proofs.YtfkgjbdeicggaaaGreat

/-! Packing the index: its memory. -/
namespace Go.Proofs.YtfkgjbdeicggaaaGreat
open Go.RowKit Go.Proofs.PlLex Go.Proofs.PlNet Go.Proofs.PlMap Go.Proofs.PlGeom Go.Proofs.PlTop

theorem NodeAt.grown {W W' : World} {X : Nat → Prop} {row : Option Nat} (hg : W.grownBy W' row) (hr : ∀ r, row = some r → ∃ o : Obj, W.heap[r]? = some o ∧ o.isCells = false) {d g : Nat} {bx : Bx} {ls : List Lf} (h : NodeAt W X d g bx ls) : NodeAt W' X d g bx ls := by
  have hb : ∀ {b : Nat} {o : Obj}, o.isCells = true → W.heap[b]? = some o → W'.heap[b]? = some o := fun {b o} hc ho => (hg.block b (Array.getElem?_eq_some_iff.1 ho).1 (fun e => by
    obtain ⟨o', h1, h2⟩ := hr b e.symm
    rw [ho] at h1
    cases h1
    rw [hc] at h2
    cases h2)).trans ho
  induction d generalizing g bx ls with
  | zero =>
    obtain ⟨h1, h2, id, h3, h4⟩ := h
    exact ⟨h1, h2, id, h3, hb rfl h4⟩
  | succ d ih =>
    obtain ⟨h1, h2, p, c, ps, h3, h4, h5, h6, h7, h8, h9⟩ := h
    refine ⟨h1, h2, p, c, ps, hb rfl h3, h4, Nat.lt_of_lt_of_le h5 hg.size, h6, fun i x hi => ?_, fun x hx => ih (h8 x hx), h9⟩
    obtain ⟨ob, k1, k2⟩ := cells_of_cell (h7 i x hi)
    exact (World.cell?_of_block (a := ⟨p, i, none⟩) ((hb k2 k1).trans k1.symm)).trans (h7 i x hi)
theorem NodesAt.grown {W W' : World} {X : Nat → Prop} {row : Option Nat} {d : Nat} {L : List Nd} (h : NodesAt W X d L) (hg : W.grownBy W' row) (hr : ∀ r, row = some r → ∃ o : Obj, W.heap[r]? = some o ∧ o.isCells = false) : NodesAt W' X d L := fun x hx => (h x hx).grown hg hr
theorem NodesAt.below {W W' : World} {X : Nat → Prop} {d : Nat} {L : List Nd} (h : NodesAt W X d L) (hb : Below W.heap.size W W') : NodesAt W' X d L := h.kept (bgrow hb) (fun r e => by cases e)
/-- Where packing stands in a round: the row that is cut, the box of what comes next, its row, the nodes. -/
structure PkI (w00 : World) (d g cap Bn : Nat) (nv : Value) (X : Nat → Prop) (L M : List Nd) (W : World) : Prop where
  below : Below w00.heap.size w00 W
  row : W.ownsRow w00.heap.size 146 1 (.slice (some ⟨g, 0, none⟩) L.length cap) L.length (L.map ndP)
  nx : W.heap[Bn]? = some (.cells #[nv] 153 (0, 0))
  nrow : W.ownsRow w00.heap.size 146 1 nv M.length (M.map ndP)
  ng : nv.ownBlock ≠ some g
  lo : w00.heap.size ≤ Bn
  xg : X g
  xb : X Bn
  xn : ∀ b, nv.ownBlock = some b → X b
  old : NodesAt W X d L
  new : NodesAt W X (d + 1) M
theorem PkI.gb {w00 : World} {d g cap Bn : Nat} {nv : Value} {X : Nat → Prop} {L M : List Nd} {W : World} (h : PkI w00 d g cap Bn nv X L M W) : g ≠ Bn ∧ nv.ownBlock ≠ some Bn ∧ g < W.heap.size ∧ Bn < W.heap.size ∧ w00.heap.size ≤ g := by
  obtain ⟨h1, cur, hc⟩ := own_block h.row rfl
  refine ⟨fun e => ?_, fun e => ?_, lt_of_block hc, lt_of_block h.nx, h1⟩
  · rw [e, h.nx] at hc
    cases hc
  · obtain ⟨_, cur, hc⟩ := own_block h.nrow e
    rw [h.nx] at hc
    cases hc
/-- Another block has changed. -/
theorem PkI.kept {w00 : World} {d g cap Bn : Nat} {nv : Value} {X : Nat → Prop} {L M : List Nd} {W W' : World} {row : Option Nat} (h : PkI w00 d g cap Bn nv X L M W) (hg : W.grownBy W' row) (hr : ∀ r, row = some r → X r ∧ r ≠ g ∧ r ≠ Bn ∧ nv.ownBlock ≠ some r ∧ w00.heap.size ≤ r) : PkI w00 d g cap Bn nv X L M W' :=
  ⟨below_row h.below hg (fun r e => (hr r e).2.2.2.2), own_kept h.row hg (fun b e1 e2 => (hr b e2).2.1 (Option.some.inj (e1.symm ▸ rfl : some b = some g))), (hg.block Bn (lt_of_block h.nx) (fun e => (hr Bn e.symm).2.2.1 rfl)).trans h.nx, own_kept h.nrow hg (fun b e1 e2 => (hr b e2).2.2.2.1 e1), h.ng, h.lo, h.xg, h.xb, h.xn, h.old.kept hg (fun r e => (hr r e).1), h.new.kept hg (fun r e => (hr r e).1)⟩
theorem PkI.lift {w00 : World} {d g cap Bn : Nat} {nv : Value} {X : Nat → Prop} {L M : List Nd} {W W' : World} (h : PkI w00 d g cap Bn nv X L M W) (hb : Below W.heap.size W W') : PkI w00 d g cap Bn nv X L M W' := h.kept (bgrow hb) (fun r e => by cases e)
theorem PkI.more {w00 : World} {d g cap Bn : Nat} {nv : Value} {X Y : Nat → Prop} {L M : List Nd} {W : World} (h : PkI w00 d g cap Bn nv X L M W) (hXY : ∀ b, b < W.heap.size → Y b → X b) (y1 : Y g) (y2 : Y Bn) (y3 : ∀ b, nv.ownBlock = some b → Y b) : PkI w00 d g cap Bn nv Y L M W :=
  ⟨h.below, h.row, h.nx, h.nrow, h.ng, h.lo, y1, y2, y3, h.old.more hXY, h.new.more hXY⟩
theorem blk_grown {X Y : World} {row : Option Nat} {b : Nat} {cs : Array Value} {t : TypeId} {f : Nat × Nat} (h : X.heap[b]? = some (.cells cs t f)) (hg : X.grownBy Y row) (hr : ∀ r, row = some r → ∃ o : Obj, X.heap[r]? = some o ∧ o.isCells = false) : Y.heap[b]? = some (.cells cs t f) :=
  (hg.block b (lt_of_block h) (fun e => by
    obtain ⟨o, h1, h2⟩ := hr b e.symm
    rw [h] at h1
    cases h1
    cases h2)).trans h
theorem owns_grown {X Y : World} {row : Option Nat} {B k size : Nat} {t : TypeId} {v : Value} {xs : List Value} (h : X.ownsRow B t size v k xs) (hg : X.grownBy Y row) (hr : ∀ r, row = some r → ∃ o : Obj, X.heap[r]? = some o ∧ o.isCells = false) : Y.ownsRow B t size v k xs :=
  own_kept h hg (fun b e1 e2 => by
    obtain ⟨_, cur, hc⟩ := own_block h e1
    obtain ⟨o, h1, h2⟩ := hr b e2
    rw [hc] at h1
    cases h1
    cases h2)
theorem PkI.own {w00 : World} {d g cap Bn : Nat} {nv : Value} {X : Nat → Prop} {L M : List Nd} {N : Nat} (hN : w00.heap.size ≤ N) {W W' : World} {row : Option Nat} (h : PkI w00 d g cap Bn nv X L M W) (hg : W.grownBy W' row) (hr : ∀ r, row = some r → N ≤ r ∧ ∃ o : Obj, W.heap[r]? = some o ∧ o.isCells = false) : PkI w00 d g cap Bn nv X L M W' :=
  ⟨below_row h.below hg (fun r e => Nat.le_trans hN (hr r e).1), owns_grown h.row hg (fun r e => (hr r e).2), blk_grown h.nx hg (fun r e => (hr r e).2), owns_grown h.nrow hg (fun r e => (hr r e).2), h.ng, h.lo, h.xg, h.xb, h.xn, h.old.grown hg (fun r e => (hr r e).2), h.new.grown hg (fun r e => (hr r e).2)⟩
/-- The row has been sorted in part. -/
theorem PkI.sort {w00 : World} {d g cap Bn : Nat} {nv : Value} {X : Nat → Prop} {L M : List Nd} {W W' : World} {C : List Nd} {o m : Nat} (h : PkI w00 d g cap Bn nv X L M W) (ho : o + m ≤ L.length) (hC : C.Perm (subL L o m)) (hr : W'.ownsRow w00.heap.size 146 1 (.slice (some ⟨g, 0, none⟩) L.length cap) L.length ((putS L o C).map ndP)) (hg : W.grownBy W' (some g)) : PkI w00 d g cap Bn nv X (putS L o C) M W' := by
  obtain ⟨h1, h2, h3, h4, h5⟩ := h.gb
  have hp := putS_perm L ho hC
  have hl := hp.length_eq
  refine ⟨below_row h.below hg (fun r e => by cases e; exact h5), by rw [hl]; exact hr, (hg.block Bn h4 (fun e => h1 (Option.some.inj e).symm)).trans h.nx, own_kept h.nrow hg (fun b e1 e2 => h.ng (e1.trans e2.symm)), h.ng, h.lo, h.xg, h.xb, h.xn, (h.old.kept hg (fun r e => by cases e; exact h.xg)).perm hp, h.new.kept hg (fun r e => by cases e; exact h.xg)⟩
/-- A new node has been added to what comes next. -/
theorem PkI.push {w00 : World} {d g cap Bn : Nat} {nv nv' : Value} {X : Nat → Prop} {L M : List Nd} {W W1 : World} {x : Nd} (h : PkI w00 d g cap Bn nv X L M W) (hx : NodeAt W X (d + 1) x.g x.bx x.ls) (hr : W1.ownsRow w00.heap.size 146 1 nv' (M.length + 1) (M.map ndP ++ [ndP x])) (hg : W.grownBy W1 nv.ownBlock) (hat : ∀ b, nv'.ownBlock = some b → nv.ownBlock = some b ∨ W.heap.size ≤ b) :
    PkI w00 d g cap Bn nv' (fun b => X b ∨ nv'.ownBlock = some b) L (M ++ [x]) (W1.setCell ⟨Bn, 0, none⟩ nv') := by
  obtain ⟨h1, h2, h3, h4, h5⟩ := h.gb
  have n1 : nv'.ownBlock ≠ some g := fun e => by
    rcases hat g e with e | e
    · exact h.ng e
    · omega
  have n2 : nv'.ownBlock ≠ some Bn := fun e => by
    rcases hat Bn e with e | e
    · exact h2 e
    · omega
  have hs : W1.grownBy (W1.setCell ⟨Bn, 0, none⟩ nv') (some Bn) := ⟨rfl, rfl, rfl, by simp, fun k _ hne => Below.heap_setCell W1 ⟨Bn, 0, none⟩ nv' k (fun e => hne (by rw [e]))⟩
  have b1 : Below w00.heap.size w00 W1 := below_row h.below hg (fun r e => (own_base h.nrow e).1)
  have hnx : W1.heap[Bn]? = some (.cells #[nv] 153 (0, 0)) := (hg.block Bn h4 (fun e => h2 e.symm)).trans h.nx
  have more : ∀ {dd : Nat} {y : Nd}, NodeAt W X dd y.g y.bx y.ls → NodeAt (W1.setCell ⟨Bn, 0, none⟩ nv') (fun b => X b ∨ nv'.ownBlock = some b) dd y.g y.bx y.ls := fun hy => by
    have k1 := hy.more (Y := fun b => X b ∨ nv'.ownBlock = some b) (fun b hb hY => hY.elim id (fun e => by
      rcases hat b e with e | e
      · exact h.xn b e
      · omega))
    exact (k1.kept hg (fun r e => .inl (h.xn r e))).kept hs (fun r e => by cases e; exact .inl h.xb)
  refine ⟨below_row b1 hs (fun r e => by cases e; exact h.lo), own_kept (own_kept h.row hg (fun b e1 e2 => ?_)) hs (fun b e1 e2 => ?_), ?_, by rw [List.length_append, List.map_append]; exact own_kept hr hs (fun b e1 e2 => n2 (e1.trans e2.symm)), n1, h.lo, .inl h.xg, .inl h.xb, fun b e => .inr e, fun y hy => more (h.old y hy), fun y hy => ?_⟩
  · have e3 : g = b := Option.some.inj e1
    exact h.ng (by rw [e2, e3])
  · have e3 : g = b := Option.some.inj e1
    have e4 := Option.some.inj e2
    exact h1 (by rw [e3, e4])
  · rw [Sort.setCell_eq]
    simp [Sort.mapBlock, Array.getElem?_modify, hnx, Sort.onCells]
  · rcases List.mem_append.1 hy with hy | hy
    · exact more (h.new y hy)
    · simp at hy
      rw [hy]
      exact more hx
end Go.Proofs.YtfkgjbdeicggaaaGreat
