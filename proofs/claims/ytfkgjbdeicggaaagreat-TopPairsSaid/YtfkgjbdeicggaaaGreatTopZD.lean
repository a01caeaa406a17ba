/-
  The reference's borders: put.
-/
import Derived.Test.YtfkgjbdeicggaaaGreatTopZE
namespace Go.Proofs.YtfkgjbdeicggaaaGreat
open Go.RowKit Go.Proofs.PlLex Go.Proofs.PlNet Go.Proofs.PlMap Go.Proofs.PlGeom Go.Proofs.PlTop
attribute [local go_sem] Oper.semAt_some run_min_str run_max_str

def encD (f : BA → Pt) (x : Pr × Value) : List Value := [.string x.1.1, .string x.1.2, .int .i64 (f x.1.1).x, .int .i64 (f x.1.1).y, .int .i64 (f x.1.2).x, .int .i64 (f x.1.2).y, x.2]
/-- A list of borders in memory. -/
structure BdS (B : Nat) (f : BA → Pt) (D : Nat) (v : Value) (L : List (Pr × Value)) (W : World) : Prop where
  row : W.ownsRow B 75 7 v L.length (L.flatMap (encD f))
  own : ∀ x ∈ L, ∃ G : List BA, G.length ≤ D ∧ W.ownsRow B 9 1 x.2 G.length (G.map .string)
theorem BdS.below {B : Nat} {f : BA → Pt} {D : Nat} {v : Value} {L : List (Pr × Value)} {W W' : World} (h : BdS B f D v L W) (hb : Below W.heap.size W W') : BdS B f D v L W' :=
  ⟨own_below h.row hb, fun x hx => by obtain ⟨G, h1, h2⟩ := h.own x hx; exact ⟨G, h1, own_below h2 hb⟩⟩
theorem BdS.cells {B : Nat} {f : BA → Pt} {D : Nat} {g n c : Nat} {L : List (Pr × Value)} {W : World} (h : BdS B f D (.slice (some ⟨g, 0, none⟩) n c) L W) {i : Nat} {x : Pr × Value} (hx : L[i]? = some x) :
    W.cell? ⟨g, i * 7, none⟩ = some (.string x.1.1) ∧ W.cell? ⟨g, i * 7 + 1, none⟩ = some (.string x.1.2) ∧ W.cell? ⟨g, i * 7 + 2, none⟩ = some (.int .i64 (f x.1.1).x) ∧ W.cell? ⟨g, i * 7 + 3, none⟩ = some (.int .i64 (f x.1.1).y) ∧ W.cell? ⟨g, i * 7 + 4, none⟩ = some (.int .i64 (f x.1.2).x) ∧ W.cell? ⟨g, i * 7 + 5, none⟩ = some (.int .i64 (f x.1.2).y) ∧ W.cell? ⟨g, i * 7 + 6, none⟩ = some x.2 := by
  have hr := h.row
  have hn : n = L.length := by
    rcases hr.2 with ⟨e, _⟩ | ⟨g', cap, cur, e, _⟩
    · cases e
    · cases e; rfl
  subst hn
  have key : ∀ j (u : Value), j < 7 → (encD f x)[j]? = some u → W.cell? ⟨g, i * 7 + j, none⟩ = some u := fun j u hj hu => own_cell hr (i * 7 + j) u (by
    rw [flat_get (enc := encD f) (k := 7) (fun _ => rfl) L i j hj, hx]
    exact hu)
  exact ⟨key 0 _ (by omega) rfl, key 1 _ (by omega) rfl, key 2 _ (by omega) rfl, key 3 _ (by omega) rfl, key 4 _ (by omega) rfl, key 5 _ (by omega) rfl, key 6 _ (by omega) rfl⟩
theorem info_bord : (Tryz.prog.info? 75).map (fun i => (i.zero, i.size, i.bytes)) = some (some (.agg #[.string ⟨#[]⟩, .string ⟨#[]⟩, .int .i64 0, .int .i64 0, .int .i64 0, .int .i64 0, .slice none 0 0]), 7, 88) := by kernel_rfl
theorem own_one {W : World} {B n : Nat} {v : Value} {xs : List Value} (h : W.ownsRow B 9 1 v n xs) : v.oneCell' = true := by
  rcases h.2 with ⟨rfl, _⟩ | ⟨g, cap, cur, rfl, _⟩ <;> rfl
theorem one_D {B : Nat} {f : BA → Pt} {D : Nat} {v : Value} {L M : List (Pr × Value)} {W : World} (h : BdS B f D v L W) (hM : ∀ x ∈ M, x ∈ L) : ∀ u ∈ M.flatMap (encD f), u.oneCell' = true := by
  intro u hu
  obtain ⟨x, hx, hu⟩ := List.mem_flatMap.1 hu
  obtain ⟨G, _, hG⟩ := h.own x (hM x hx)
  simp [encD] at hu
  rcases hu with rfl | rfl | rfl | rfl | rfl | rfl | rfl
  · rfl
  · rfl
  · rfl
  · rfl
  · rfl
  · rfl
  · exact own_one hG
theorem flatD_len (f : BA → Pt) (L : List (Pr × Value)) : (L.flatMap (encD f)).length = L.length * 7 := by
  induction L with
  | nil => rfl
  | cons q L ih => rw [List.flatMap_cons, List.length_append, ih]; simp [encD]; omega
/-- The cells of a list's beginning, of its end. -/
theorem BdS.pre {B : Nat} {f : BA → Pt} {D : Nat} {g n c : Nat} {L : List (Pr × Value)} {W : World} (h : BdS B f D (.slice (some ⟨g, 0, none⟩) n c) L W) (k : Nat) : ∀ (j : Nat) (u : Value), ((L.take k).flatMap (encD f))[j]? = some u → W.cell? ((⟨g, 0, none⟩ : Addr).add j) = some u := by
  intro j u hj
  refine World.ownsRow.cells h.row (g := g) rfl j u ?_
  conv => lhs; rw [← List.take_append_drop k L]
  rw [List.flatMap_append, List.getElem?_append_left (List.getElem?_eq_some_iff.1 hj).1]
  exact hj
theorem BdS.suf {B : Nat} {f : BA → Pt} {D : Nat} {g n c : Nat} {L : List (Pr × Value)} {W : World} (h : BdS B f D (.slice (some ⟨g, 0, none⟩) n c) L W) {k : Nat} (hk : k ≤ L.length) : ∀ (j : Nat) (u : Value), ((L.drop k).flatMap (encD f))[j]? = some u → W.cell? ((⟨g, k * 7, none⟩ : Addr).add j) = some u := by
  intro j u hj
  have h1 := World.ownsRow.cells h.row (g := g) rfl (k * 7 + j) u (by
    conv => lhs; rw [← List.take_append_drop k L]
    rw [List.flatMap_append, List.getElem?_append_right (by rw [flatD_len, List.length_take]; omega), flatD_len, List.length_take, Nat.min_eq_left hk, Nat.add_sub_cancel_left]
    exact hj)
  rw [show (⟨g, k * 7, none⟩ : Addr).add j = (⟨g, 0, none⟩ : Addr).add (k * 7 + j) from by
    simp only [Addr.add, Nat.zero_add]
    by_cases e : j = 0
    · subst e
      by_cases e2 : k = 0
      · subst e2; simp
      · rw [if_pos rfl, if_neg (by omega), Nat.add_zero]
    · rw [if_neg e, if_neg (by omega)]]
  exact h1
/-- A border is put into a list. -/
theorem ins_end {B : Nat} {f : BA → Pt} {D : Nat} {g cap g3 c3 k n3 : Nat} {p : Pr} {L : List (Pr × Value)} {W W' : World} (h : BdS B f D (.slice (some ⟨g, 0, none⟩) L.length cap) L W) (_ : k ≤ L.length) (hM : Below W.heap.size W W') (hB : B ≤ W.heap.size)
    (hr : W'.ownsRow W.heap.size 75 7 (.slice (some ⟨g3, 0, none⟩) n3 c3) (L.take k ++ (p, (.slice none 0 0 : Value)) :: L.drop k).length (((L.take k).flatMap (encD f) ++ [.string p.1, .string p.2, .int .i64 (f p.1).x, .int .i64 (f p.1).y, .int .i64 (f p.2).x, .int .i64 (f p.2).y, .slice none 0 0]) ++ (L.drop k).flatMap (encD f))) :
    BdS B f D (.slice (some ⟨g3, 0, none⟩) n3 c3) (L.take k ++ (p, .slice none 0 0) :: L.drop k) W' := by
  refine ⟨?_, fun x hx => ?_⟩
  · rw [List.flatMap_append, List.flatMap_cons]
    rw [List.append_assoc] at hr
    exact own_lower hr hB
  · rcases List.mem_append.1 hx with hx | hx
    · obtain ⟨G, h1, h2⟩ := h.own x (List.mem_of_mem_take hx)
      exact ⟨G, h1, own_below h2 hM⟩
    · rcases List.mem_cons.1 hx with rfl | hx
      · exact ⟨[], Nat.zero_le _, World.ownsRow_nil _ _ _ _⟩
      · obtain ⟨G, h1, h2⟩ := h.own x (List.mem_of_mem_drop hx)
        exact ⟨G, h1, own_below h2 hM⟩
theorem take_lt {L : List (Pr × Value)} {k : Nat} {x p : Pr} {u : Value} (h : ∀ q ∈ (L.take k).map Prod.fst, ltP q p) (hx : L[k]? = some (x, u)) (hl : ltP x p) : ∀ q ∈ (L.take (k + 1)).map Prod.fst, ltP q p := by
  intro q hq
  rw [List.take_add_one, hx, List.map_append, List.mem_append] at hq
  rcases hq with hq | hq
  · exact h q hq
  · simp at hq
    rw [hq]
    exact hl
theorem node_at {l : List Ob} (hm : mapB l = true) {s : BA} (h : isNode l s = true) : ∃ (j : Nat) (o : Ob), findI l s = (j : Nat) ∧ l[j]? = some o ∧ ptO l s = ⟨o.x, o.y⟩ ∧ j < l.length := by
  obtain ⟨o, ho, hf, hid, _⟩ := node_find (mapB_uniq hm) h
  cases e : findN s l with
  | none => exact absurd hid (findN_none s l e o ho)
  | some j =>
    obtain ⟨o', h1, h2, h3, h4⟩ := findN_some s l j e
    refine ⟨j, o', by unfold findI; rw [e], h1, by unfold ptO; rw [h4], h3⟩
def zeroD : Array Value := #[.string ⟨#[]⟩, .string ⟨#[]⟩, .int .i64 0, .int .i64 0, .int .i64 0, .int .i64 0, .slice none 0 0]
theorem row7 {W : World} {b : Nat} {a0 a1 a2 a3 a4 a5 a6 : Value} {t : TypeId} (h : W.heap[b]? = some (.cells #[a0, a1, a2, a3, a4, a5, a6] t (0, 0))) : (W.cell? ⟨b, 0, none⟩ = some a0 ∧ W.cell? ⟨b, 1, none⟩ = some a1 ∧ W.cell? ⟨b, 2, none⟩ = some a2 ∧ W.cell? ⟨b, 3, none⟩ = some a3 ∧ W.cell? ⟨b, 4, none⟩ = some a4 ∧ W.cell? ⟨b, 5, none⟩ = some a5 ∧ W.cell? ⟨b, 6, none⟩ = some a6) ∧
    W.frozen? ⟨b, 0, none⟩ = false ∧ W.frozen? ⟨b, 1, none⟩ = false ∧ W.frozen? ⟨b, 2, none⟩ = false ∧ W.frozen? ⟨b, 3, none⟩ = false ∧ W.frozen? ⟨b, 4, none⟩ = false ∧ W.frozen? ⟨b, 5, none⟩ = false ∧ W.frozen? ⟨b, 6, none⟩ = false :=
  ⟨⟨cell_of_row W _ 0 _ _ _ h, cell_of_row W _ 1 _ _ _ h, cell_of_row W _ 2 _ _ _ h, cell_of_row W _ 3 _ _ _ h, cell_of_row W _ 4 _ _ _ h, cell_of_row W _ 5 _ _ _ h, cell_of_row W _ 6 _ _ _ h⟩, frozen_of_row W _ 0 _ _ h, frozen_of_row W _ 1 _ _ h, frozen_of_row W _ 2 _ _ h, frozen_of_row W _ 3 _ _ h, frozen_of_row W _ 4 _ _ h, frozen_of_row W _ 5 _ _ h, frozen_of_row W _ 6 _ _ h⟩
theorem cell_set {W : World} {g : Nat} {cs : Array Value} {t : TypeId} {f : Nat × Nat} (h : W.heap[g]? = some (.cells cs t f)) (i : Nat) (v : Value) : (W.setCell ⟨g, i, none⟩ v).heap[g]? = some (.cells (cs.setIfInBounds i v) t f) := by
  have hlt := lt_of_block h
  rw [Sort.setCell_eq]
  simp [Sort.mapBlock, Array.getElem?_modify, h, Sort.onCells]
/-- A border's owners are replaced. -/
theorem BdS.set {B : Nat} {f : BA → Pt} {D : Nat} {g n c : Nat} {L : List (Pr × Value)} {W : World} (h : BdS B f D (.slice (some ⟨g, 0, none⟩) n c) L W) {k : Nat} {x : Pr} {u : Value} (hx : L[k]? = some (x, u)) {ov : Value} {G : List BA} (hG : G.length ≤ D + 1)
    (hr : W.ownsRow B 9 1 ov G.length (G.map .string)) : BdS B f (D + 1) (.slice (some ⟨g, 0, none⟩) n c) (L.set k (x, ov)) (W.setCell ⟨g, k * 7 + 6, none⟩ ov) := by
  have hrow := h.row
  have hn : n = L.length := by
    rcases hrow.2 with ⟨e, _⟩ | ⟨g', cap, cur, e, _⟩
    · cases e
    · cases e; rfl
  subst hn
  have hk := (List.getElem?_eq_some_iff.1 hx).1
  refine ⟨?_, fun y hy => ?_⟩
  · have := own_put hrow (k * 7 + 6) ov
    rw [List.length_set]
    have e : (L.flatMap (encD f)).set (k * 7 + 6) ov = (L.set k (x, ov)).flatMap (encD f) := by
      apply List.ext_getElem?
      intro i
      rw [List.getElem?_set]
      have h7 := Nat.div_add_mod i 7
      have hm := Nat.mod_lt i (show 0 < 7 by omega)
      have key := fun M : List (Pr × Value) => flat_get (enc := encD f) (k := 7) (fun _ => rfl) M (i / 7) (i % 7) hm
      rw [show i / 7 * 7 + i % 7 = i by omega] at key
      rw [key, key, List.getElem?_set]
      by_cases e1 : k * 7 + 6 = i
      · have e2 : k = i / 7 := by omega
        have e3 : i % 7 = 6 := by omega
        rw [if_pos e1, if_pos (by rw [flatD_len]; omega), if_pos e2, if_pos hk, e3]
        rfl
      · rw [if_neg e1]
        by_cases e2 : k = i / 7
        · have e3 : i % 7 ≠ 6 := by omega
          rw [if_pos e2, if_pos hk, ← e2, hx]
          have hc : i % 7 = 0 ∨ i % 7 = 1 ∨ i % 7 = 2 ∨ i % 7 = 3 ∨ i % 7 = 4 ∨ i % 7 = 5 := by omega
          rcases hc with h | h | h | h | h | h <;> rw [h] <;> rfl
        · rw [if_neg e2]
    rw [e] at this
    exact this
  · have hgr := own_put_grown W g (k * 7 + 6) ov
    have keep : ∀ {v : Value} {m : Nat} {xs : List Value}, W.ownsRow B 9 1 v m xs → (W.setCell ⟨g, k * 7 + 6, none⟩ ov).ownsRow B 9 1 v m xs := fun hv => own_kept hv hgr fun b hb e => row_ne_row hv hrow (by decide) b hb e
    rcases List.mem_or_eq_of_mem_set hy with hy | rfl
    · obtain ⟨G', h1, h2⟩ := h.own y hy
      exact ⟨G', by omega, keep h2⟩
    · exact ⟨G, hG, keep hr⟩
theorem grow_set {w W : World} {g g' o : Nat} {v : Value} (hb : Below w.heap.size w W) (h : g' = g ∨ w.heap.size ≤ g') : w.grownBy (W.setCell ⟨g', o, none⟩ v) (some g) :=
  ⟨hb.os, hb.tape, hb.output, by simpa [World.setCell] using hb.size, fun i hi hne => (Below.heap_setCell W ⟨g', o, none⟩ v i (fun e => by
    have e2 : g' = i := e.symm
    rcases h with h | h
    · exact hne (by rw [← h, e2])
    · omega)).trans (hb.block i hi)⟩
theorem grow_none {w W : World} {r : Option Nat} (hb : Below w.heap.size w W) : w.grownBy W r := ⟨hb.os, hb.tape, hb.output, hb.size, fun i hi _ => hb.block i hi⟩
theorem two_alloc (w : World) (a b : Obj) : ((w.alloc a).alloc b).heap[w.heap.size + 1]? = some b := by
  have := heap_alloc_new (w.alloc a) b
  rwa [show (w.alloc a).heap.size = w.heap.size + 1 by simp] at this
theorem map_set_fst {L : List (Pr × Value)} {k : Nat} {x : Pr} {u : Value} (h : L[k]? = some (x, u)) (v : Value) : (L.set k (x, v)).map Prod.fst = L.map Prod.fst := by
  apply List.ext_getElem?
  intro i
  rw [List.getElem?_map, List.getElem?_map, List.getElem?_set]
  by_cases e : k = i
  · subst e
    rw [if_pos rfl, if_pos (List.getElem?_eq_some_iff.1 h).1, h]
    rfl
  · rw [if_neg e]
theorem BdS.more {B : Nat} {f : BA → Pt} {D : Nat} {v : Value} {L : List (Pr × Value)} {W : World} (h : BdS B f D v L W) : BdS B f (D + 1) v L W :=
  ⟨h.row, fun x hx => by obtain ⟨G, h1, h2⟩ := h.own x hx; exact ⟨G, by omega, h2⟩⟩
section
variable {P : Program}
theorem wpList_append_some {ops : Array Oper} {rest : List Oper} {w : World} {o : Oper} {a : Act} {Q : Exit → Act → World → Prop} (hgd : o.guard = none) (s x : Operand) (t : TypeId)
    (ho : o.op = .call { callee := .builtin .append, args := #[s, x], argTypes := #[t, t] })
    (base : Nat) (e : TypeId) (i : TypeInfo) (z : Value) (size bytes : Nat) (ht : P.underlying t = some (.slice e)) (hi : P.info? e = some i) (hz : i.zero = some z)
    (hsize : i.size = size) (hby : i.bytes = bytes) (hzs : z.cells.size = size) (hsz : 0 < size)
    (g0 n cap0 : Nat) (xs : List Value) (hs : a.eval s = .slice (some ⟨g0, 0, none⟩) n cap0) (hown : w.ownsRow base e size (.slice (some ⟨g0, 0, none⟩) n cap0) n xs)
    (ad : Addr) (m c : Nat) (news : List Value) (hx : a.eval x = .slice (some ad) m c) (hl : news.length = m * size) (hnews : ∀ j u, news[j]? = some u → w.cell? (ad.add j) = some u) (h1 : ∀ u ∈ news, u.oneCell' = true)
    (h63 : n + m ≤ maxLen) (hbytes : (n + m) * bytes ≤ 140737488355328) (hbase : base ≤ w.heap.size)
    (h : ∀ g cap w', w'.ownsRow base e size (.slice (some ⟨g, 0, none⟩) (n + m) cap) (n + m) (xs ++ news) → w.grownBy w' (some g0) → wpList P ops Q rest (a.put o.dst (.slice (some ⟨g, 0, none⟩) (n + m) cap)) w') : wpList P ops Q (o :: rest) a w :=
  wpList_plain hgd fun _ hK => wp_append_some s x t ho base e i z size bytes ht hi hz hsize hby hzs hsz g0 n cap0 xs hs hown ad m c news hx hl hnews h1 h63 hbytes hbase fun g cap w' h2 h3 => hK _ _ (h g cap w' h2 h3)
theorem wpList_append_nil {ops : Array Oper} {rest : List Oper} {w : World} {o : Oper} {a : Act} {Q : Exit → Act → World → Prop} (hgd : o.guard = none) (s x : Operand) (t : TypeId)
    (ho : o.op = .call { callee := .builtin .append, args := #[s, x], argTypes := #[t, t] })
    (e : TypeId) (i : TypeInfo) (ht : P.underlying t = some (.slice e)) (hi : P.info? e = some i) (b : Option Addr) (n cap : Nat) (hc : n ≤ cap) (hs : a.eval s = .slice b n cap) (hx : a.eval x = .slice none 0 0)
    (h : wpList P ops Q rest (a.put o.dst (.slice b n cap)) w) : wpList P ops Q (o :: rest) a w :=
  wpList_plain hgd fun _ hK => wp_append_nil s x t ho e i ht hi b n cap hc hs hx (hK _ _ h)
end
theorem put7 {W : World} {g : Nat} {a0 a1 a2 a3 a4 a5 a6 : Value} {t : TypeId} {f : Nat × Nat} (h : W.heap[g]? = some (.cells #[a0, a1, a2, a3, a4, a5, a6] t f)) (v0 v1 v2 v3 v4 v5 v6 : Value) :
    (((((((W.setCell ⟨g, 0, none⟩ v0).setCell ⟨g, 1, none⟩ v1).setCell ⟨g, 2, none⟩ v2).setCell ⟨g, 3, none⟩ v3).setCell ⟨g, 4, none⟩ v4).setCell ⟨g, 5, none⟩ v5).setCell ⟨g, 6, none⟩ v6).heap[g]? = some (.cells #[v0, v1, v2, v3, v4, v5, v6] t f) := by
  have := cell_set (cell_set (cell_set (cell_set (cell_set (cell_set (cell_set h 0 v0) 1 v1) 2 v2) 3 v3) 4 v4) 5 v5) 6 v6
  simpa using this
set_option maxRecDepth 100000 in
set_option maxHeartbeats 16000000 in
theorem put_more (l : List Ob) (mv : Value) (D g cap : Nat) (L : List (Pr × Value)) (pa pb id : BA) (w0 w : World) (hm : MapI w0 mv l) (hv : mapB l = true) (hb0 : Below w0.heap.size w0 w) (h : BdS w0.heap.size (ptO l) D (.slice (some ⟨g, 0, none⟩) L.length cap) L w) (hne : 1 ≤ L.length) (hl : L.length ≤ 1000) (hD : D ≤ 1000) (hs : (L.map Prod.fst).Pairwise ltP) (na : isNode l pa = true) (nb : isNode l pb = true) :
    Calls Tryz.prog 48 #[.slice (some ⟨g, 0, none⟩) L.length cap, .agg #[mv], .agg #[.string pa, .string pb], .string id] w fun e w' => ∃ v' L', e = .returned v' ∧ BdS w0.heap.size (ptO l) (D + 1) v' L' w' ∧ L'.map Prod.fst = insP (pa, pb) (L.map Prod.fst) ∧ Below w0.heap.size w0 w' ∧ w.grownBy w' (some g) := by
  have hmx : Tryz.prog.follows .mixedOrders = true := by kernel_rfl
  obtain ⟨w1, hw1⟩ : ∃ w1, w.alloc (.cells #[mv] 24) = w1 := ⟨_, rfl⟩
  obtain ⟨w2, hw2⟩ : ∃ w2, w1.alloc (.cells #[.string pa, .string pb] 87) = w2 := ⟨_, rfl⟩
  have hb1 : Below w.heap.size w w1 := by rw [← hw1]; exact (Below.refl _ _).alloc (Nat.le_refl _) _
  have hb2 : Below w1.heap.size w1 w2 := by rw [← hw2]; exact (Below.refl _ _).alloc (Nat.le_refl _) _
  have hx1 : w1.heap[w.heap.size]? = some (.cells #[mv] 24 (0, 0)) := by rw [← hw1]; exact heap_alloc_new _ _
  have hx2 : w2.heap[w1.heap.size]? = some (.cells #[.string pa, .string pb] 87 (0, 0)) := by rw [← hw2]; exact heap_alloc_new _ _
  have HX1 := hide (blkB hb2 hx1)
  have HX2 := hide hx2
  have HB2 := hide (bto hb1 hb2)
  have HB0 := hide (bto hb0 (bto hb1 hb2))
  have HBD := hide (h.below (bto hb1 hb2))
  have HM := hide hm
  have HV := hide hv
  have HS := hide hs
  have HD := hide hD
  have HL0 := hide hne
  have HL := hide hl
  have HNA := hide na
  have HNB := hide nb
  clear hb1 hb2 hx1 hx2 hb0 h hm hv hs hD hne hl na nb
  go_enter Tryz.func48, Tryz.ntmps48
  go_upto_block 0 with (fail)
  clear hw1 hw2
  go_cut [9] (fun s9 wx => ∃ k : Nat, k ≤ L.length ∧ s9 = .int .i64 k ∧ Hid (∀ q ∈ (L.take k).map Prod.fst, ltP q (pa, pb)) ∧ Hid (∀ x u, L[k]? = some (x, u) → ¬ ltP x (pa, pb)) ∧ Hid (Below w2.heap.size w2 wx))
  case first =>
    go_wp2_with fail
    go_loopw [9] (fun i wr => ∃ k : Nat, k ≤ L.length ∧ i = .int .i64 k ∧ Hid (∀ q ∈ (L.take k).map Prod.fst, ltP q (pa, pb)) ∧ Hid (Below w2.heap.size w2 wr)) (fun i _ => L.length - (intOf i).toNat)
    case atStart => exact ⟨0, Nat.zero_le _, rfl, hide (by simp), hide (Below.refl _ _)⟩
    case round =>
      obtain ⟨k, hk, rfl, hlo, hbr⟩ := hrel
      have hll := HL.out
      have hx := blkB hbr.out HX2.out
      have s0 := cell_of_row _ _ 0 _ _ _ hx
      have s1 := cell_of_row _ _ 1 _ _ _ hx
      clear hx
      by_cases hlt : k < L.length
      · have k0 : (0 : Int) ≤ (k : Nat) := by omega
        have k1 : ((k : Nat) : Int) < (L.length : Nat) := by omega
        obtain ⟨⟨⟨xa, xb⟩, ov⟩, hx⟩ : ∃ x, L[k]? = some x := ⟨_, List.getElem?_eq_getElem hlt⟩
        obtain ⟨e0, e1, _, _, _, _, _⟩ := (HBD.out.below hbr.out).cells hx
        have HLT := hide hlt
        have HMS := hide (show L.length - (k + 1) < L.length - k from by omega)
        simp only at e0 e1
        by_cases c1 : ltB xa pa = true
        · have b1 : Go.Op.bytesLess xa.toList pa.toList = true := c1
          have HLO := hide (take_lt hlo.out hx (.inl c1))
          clear hx c1
          go_wp2_with fail
          go_quiet (fail)
          have HB9 := hide (bto hbr.out (below_drewN wr nq))
          clear e0 e1 s0 s1
          generalize wr.drewN nq = wn at *
          go_wp2_with fail
          refine ⟨⟨k + 1, HLT.out, by go_num, HLO, HB9⟩, ?_⟩
          have := HMS.out
          simp [intOf]; omega
        · have b1 : Go.Op.bytesLess xa.toList pa.toList = false := Bool.eq_false_iff.2 c1
          by_cases c2 : xa = pa
          · obtain ⟨f1, f2⟩ := eqS c2
            have b5 : Go.Op.bytesLess pa.toList pa.toList = false := f2 ▸ b1
            by_cases c3 : ltB xb pb = true
            · have b3 : Go.Op.bytesLess xb.toList pb.toList = true := c3
              have HLO := hide (take_lt hlo.out hx (.inr ⟨c2, c3⟩))
              clear hx c1 c2 c3
              go_wp2_with fail
              go_quiet (fail)
              have HB9 := hide (bto hbr.out (below_drewN wr nq))
              clear e0 e1 s0 s1
              generalize wr.drewN nq = wn at *
              go_wp2_with fail
              refine ⟨⟨k + 1, HLT.out, by go_num, HLO, HB9⟩, ?_⟩
              have := HMS.out
              simp [intOf]; omega
            · have b3 : Go.Op.bytesLess xb.toList pb.toList = false := Bool.eq_false_iff.2 c3
              have HEX : Hid (∀ x u, L[k]? = some (x, u) → ¬ ltP x (pa, pb)) := hide (fun x u he => by
                rw [hx] at he
                cases he
                exact fun hp => hp.elim c1 (fun hp => c3 hp.2))
              clear hx c1 c2 c3
              go_wp2_with fail
              go_quiet (fail)
              have HB9 := hide (bto hbr.out (below_drewN wr nq))
              clear e0 e1 s0 s1
              generalize wr.drewN nq = wn at *
              go_wp2_with fail
              go_meet
              exact ⟨k, by omega, rfl, hlo, HEX, HB9⟩
          · obtain ⟨f1, f2⟩ := neS c2
            have HEX : Hid (∀ x u, L[k]? = some (x, u) → ¬ ltP x (pa, pb)) := hide (fun x u he => by
              rw [hx] at he
              cases he
              exact fun hp => hp.elim c1 (fun hp => c2 hp.1))
            clear hx c1 c2
            go_wp2_with fail
            go_quiet (fail)
            have HB9 := hide (bto hbr.out (below_drewN wr nq))
            clear e0 e1 s0 s1
            generalize wr.drewN nq = wn at *
            go_wp2_with fail
            go_meet
            exact ⟨k, by omega, rfl, hlo, HEX, HB9⟩
      · obtain rfl : k = L.length := by omega
        have k1 : ¬ ((L.length : Nat) : Int) < (L.length : Nat) := by omega
        have HEX : Hid (∀ x u, L[L.length]? = some (x, u) → ¬ ltP x (pa, pb)) := hide (fun x u he => by
          rw [List.getElem?_eq_none (Nat.le_refl _)] at he
          cases he)
        go_wp2_with fail
        go_quiet (fail)
        have HB9 := hide (bto hbr.out (below_drewN wr nq))
        clear s0 s1
        generalize wr.drewN nq = wn at *
        go_wp2_with fail
        go_meet
        exact ⟨L.length, Nat.le_refl _, rfl, hlo, HEX, HB9⟩
  case rest =>
    obtain ⟨k, hk, rfl, hlo, hno, hbr⟩ := hcut
    have hll := HL.out
    have HLO := hide hlo.out
    have HNO := hide hno.out
    clear hlo hno
    have hx := blkB hbr.out HX2.out
    have s0 := cell_of_row _ _ 0 _ _ _ hx
    have s1 := cell_of_row _ _ 1 _ _ _ hx
    clear hx
    go_upto_region 4 with (fail)
    go_cut [71] from 48 to 71 (fun s71 wx => ∃ b : Bool, s71 = .bool b ∧ Hid (b = false ↔ (L[k]?).map Prod.fst = some (pa, pb)) ∧ Hid (Below w2.heap.size w2 wx))
    case first =>
      by_cases hlt : k < L.length
      · have k0 : (0 : Int) ≤ (k : Nat) := by omega
        have k1 : ((k : Nat) : Int) < (L.length : Nat) := by omega
        have k2 : ¬ ((k : Nat) : Int) = (L.length : Nat) := by omega
        have k3 : (((k : Nat) : Int) == (L.length : Nat)) = false := beq_eq_false_iff_ne.2 k2
        obtain ⟨⟨⟨xa, xb⟩, ov⟩, hx⟩ : ∃ x, L[k]? = some x := ⟨_, List.getElem?_eq_getElem hlt⟩
        obtain ⟨e0, e1, _, _, _, _, _⟩ := (HBD.out.below hbr.out).cells hx
        simp only at e0 e1
        have HX := hide hx
        clear hx
        by_cases c1 : xa = pa
        · obtain ⟨f1, f2⟩ := eqS c1
          by_cases c2 : xb = pb
          · obtain ⟨g1, g2⟩ := eqS c2
            have HC := hide (show (xa, xb) = (pa, pb) by rw [c1, c2])
            clear c1 c2
            go_wp2_with fail
            go_quiet (fail)
            have HB9 := hide (bto hbr.out (below_drewN wc nq))
            clear e0 e1 s0 s1
            generalize wc.drewN nq = wn at *
            go_wp2_with fail
            go_meet
            exact ⟨false, rfl, hide (by rw [HX.out]; simpa using HC.out), HB9⟩
          · obtain ⟨g1, g2⟩ := neS c2
            have HC := hide c2
            clear c1 c2
            go_wp2_with fail
            go_quiet (fail)
            have HB9 := hide (bto hbr.out (below_drewN wc nq))
            clear e0 e1 s0 s1
            generalize wc.drewN nq = wn at *
            go_wp2_with fail
            go_meet
            exact ⟨true, rfl, hide (by rw [HX.out]; simp; exact fun _ => HC.out), HB9⟩
        · obtain ⟨f1, f2⟩ := neS c1
          have HC := hide c1
          clear c1
          go_wp2_with fail
          go_quiet (fail)
          have HB9 := hide (bto hbr.out (below_drewN wc nq))
          clear e0 e1 s0 s1
          generalize wc.drewN nq = wn at *
          go_wp2_with fail
          go_meet
          exact ⟨true, rfl, hide (by rw [HX.out]; simp; exact fun h => absurd h HC.out), HB9⟩
      · obtain rfl : k = L.length := by omega
        go_wp2_with fail
        go_quiet (fail)
        have HB9 := hide (bto hbr.out (below_drewN wc nq))
        clear s0 s1
        generalize wc.drewN nq = wn at *
        go_wp2_with fail
        go_meet
        exact ⟨true, rfl, hide (by rw [List.getElem?_eq_none (Nat.le_refl _)]; simp), HB9⟩
    case rest =>
      obtain ⟨b, rfl, hb, hbr2⟩ := hcut
      have HW := hide (bto HB0.out hbr2.out)
      have HWW := hide (bto HB2.out hbr2.out)
      have HBW := hide (HBD.out.below hbr2.out)
      have HX1C := hide (blkB hbr2.out HX1.out)
      have HX2C := hide (blkB hbr2.out HX2.out)
      have HBB := hide hb.out
      clear hbr hbr2 hb HX1 HX2 HBD HB0
      go_upto_if 71 with (fail)
      go_cut [0] from 72 to 106 (fun s0 wx => ∃ (g' cap' : Nat) (L' : List (Pr × Value)) (ov : Value), s0 = .slice (some ⟨g', 0, none⟩) L'.length cap' ∧ Hid (BdS w0.heap.size (ptO l) D (.slice (some ⟨g', 0, none⟩) L'.length cap') L' wx) ∧ Hid (L'[k]? = some ((pa, pb), ov)) ∧ Hid (L'.map Prod.fst = insP (pa, pb) (L.map Prod.fst)) ∧ Hid (L'.length ≤ 1001) ∧ Hid (Below w0.heap.size w0 wx) ∧ Hid (Below w.heap.size w wx ∧ (g' = g ∨ w.heap.size ≤ g')))
      case first =>
        cases b with
        | false =>
          have hbb := HBB.out.1 rfl
          obtain ⟨⟨x, ov⟩, hx, hxp⟩ := Option.map_eq_some_iff.1 hbb
          simp only at hxp
          subst hxp
          have HXK := hide hx
          have HIN : Hid (L.map Prod.fst = insP (pa, pb) (L.map Prod.fst)) := hide (by
            have h1 := insP_split (pa, pb) ((L.take k).map Prod.fst) ((L.drop k).map Prod.fst) HLO.out (fun q hq => by
              rw [List.head?_map, List.head?_drop, Option.map_eq_some_iff] at hq
              obtain ⟨⟨y, u⟩, hy, rfl⟩ := hq
              exact HNO.out y u hy)
            rw [List.head?_map, List.head?_drop, hx, Option.map_some, if_pos rfl, ← List.map_append, List.take_append_drop] at h1
            exact h1.symm)
          clear hx hbb
          go_wp2_with fail
          go_meet
          exact ⟨g, cap, L, ov, rfl, HBW, HXK, HIN, hide (by omega), HW, hide ⟨HWW.out, .inl rfl⟩⟩
        | true =>
          go_upto_region 5 with (fail)
          go_cut [10] from 72 to 94 (fun s10 wx => ∃ gb : Nat, s10 = .pointer (some ⟨gb, 0, none⟩) ∧ Hid (wx.heap[gb]? = some (.cells (encD (ptO l) ((pa, pb), .slice none 0 0)).toArray 75 (0, 0))) ∧ Hid (Below wc.heap.size wc wx ∧ wc.heap.size ≤ gb))
          case first =>
            obtain ⟨j1, o1, hf1, hj1, hp1, hlt1⟩ := node_at HV.out HNA.out
            obtain ⟨j2, o2, hf2, hj2, hp2, hlt2⟩ := node_at HV.out HNB.out
            obtain ⟨A, ca, hmv, _, hA⟩ := HM.out.obs
            obtain ⟨ga, oa, hAe, hga, hob⟩ := hA.resolve_left (by rintro rfl; simp at hlt1)
            rw [hAe] at hmv
            have HF1 : Hid (∀ W, Below wc.heap.size wc W → Calls Tryz.prog 51 #[.agg #[mv], .string pa] W fun e w' => e = .returned (.int .i64 (j1 : Nat)) ∧ Below W.heap.size W w') := hide (fun W hW => by rw [← hf1]; exact find13_any l pa mv W (HM.out.below (bto HW.out hW)) HV.out)
            have HF2 : Hid (∀ W, Below wc.heap.size wc W → Calls Tryz.prog 51 #[.agg #[mv], .string pb] W fun e w' => e = .returned (.int .i64 (j2 : Nat)) ∧ Below W.heap.size W w') := hide (fun W hW => by rw [← hf2]; exact find13_any l pb mv W (HM.out.below (bto HW.out hW)) HV.out)
            obtain ⟨rv1, tv1, ob1⟩ := hob j1 o1 hj1
            obtain ⟨rv2, tv2, ob2⟩ := hob j2 o2 hj2
            have HMM : Hid (∀ W, Below wc.heap.size wc W → W.cell? ⟨w.heap.size, 0, none⟩ = some mv ∧ W.cell? ⟨w1.heap.size, 0, none⟩ = some (.string pa) ∧ W.cell? ⟨w1.heap.size, 1, none⟩ = some (.string pb) ∧ W.cell? ⟨ga, oa + j1 * 6 + 2, none⟩ = some (.int .i64 o1.x) ∧ W.cell? ⟨ga, oa + j1 * 6 + 3, none⟩ = some (.int .i64 o1.y) ∧ W.cell? ⟨ga, oa + j2 * 6 + 2, none⟩ = some (.int .i64 o2.x) ∧ W.cell? ⟨ga, oa + j2 * 6 + 3, none⟩ = some (.int .i64 o2.y)) := hide (fun W hW => by
              have q1 := ob1.below hga (bto HW.out hW)
              have q2 := ob2.below hga (bto HW.out hW)
              exact ⟨cell_of_row _ _ 0 _ _ _ (blkB hW HX1C.out), cell_of_row _ _ 0 _ _ _ (blkB hW HX2C.out), cell_of_row _ _ 1 _ _ _ (blkB hW HX2C.out), q1.c2, q1.c3, q2.c2, q2.c3⟩)
            have HP1 := hide hp1
            have HP2 := hide hp2
            have i1 : (0 : Int) ≤ (j1 : Nat) := by omega
            have i2 : ((j1 : Nat) : Int) < (l.length : Nat) := by omega
            have i3 : (0 : Int) ≤ (j2 : Nat) := by omega
            have i4 : ((j2 : Nat) : Int) < (l.length : Nat) := by omega
            subst hmv
            clear hA hob ob1 ob2 hj1 hj2 hf1 hf2 hp1 hp2 hlt1 hlt2 s0 s1
            refine wp_region_anyM (fun W => Below wc.heap.size wc W) 24 hmx ?_
            have hM := below_drew wc
            generalize wc.drew = wd at *
            simp only [List.size_toArray, List.length_cons, List.length_nil, Nat.reduceAdd]
            refine wpAnyM_take (i := 0) (v := .pointer (some ⟨w1.heap.size, 0, none⟩)) rfl (by kernel_rfl) (by kernel_rfl) (by kernel_rfl) (by kernel_rfl) (fun _ _ _ h => h) (.inl ⟨by kernel_rfl, fun w hm => by go_simp⟩) ?_
            refine wpAnyM_take (i := 1) (v := .string pa) rfl (by kernel_rfl) (by kernel_rfl) (by kernel_rfl) (by kernel_rfl) (fun _ _ _ h => h) (.inl ⟨by kernel_rfl, fun w hm => by obtain ⟨m0, m1, m2, m3, m4, m5, m6⟩ := HMM.out w hm; clear m0 m2 m3 m4 m5 m6; go_simp⟩) ?_
            refine wpAnyM_take (i := 2) (v := .pointer (some ⟨w1.heap.size, 1, none⟩)) rfl (by kernel_rfl) (by kernel_rfl) (by kernel_rfl) (by kernel_rfl) (fun _ _ _ h => h) (.inl ⟨by kernel_rfl, fun w hm => by go_simp⟩) ?_
            refine wpAnyM_take (i := 3) (v := .string pb) rfl (by kernel_rfl) (by kernel_rfl) (by kernel_rfl) (by kernel_rfl) (fun _ _ _ h => h) (.inl ⟨by kernel_rfl, fun w hm => by obtain ⟨m0, m1, m2, m3, m4, m5, m6⟩ := HMM.out w hm; clear m0 m1 m3 m4 m5 m6; go_simp⟩) ?_
            refine wpAnyM_take (i := 4) (v := .pointer (some ⟨w.heap.size, 0, none⟩)) rfl (by kernel_rfl) (by kernel_rfl) (by kernel_rfl) (by kernel_rfl) (fun _ _ _ h => h) (.inl ⟨by kernel_rfl, fun w hm => by go_simp⟩) ?_
            refine wpAnyM_take (i := 5) (v := .slice (some ⟨ga, oa, none⟩) l.length ca) rfl (by kernel_rfl) (by kernel_rfl) (by kernel_rfl) (by kernel_rfl) (fun _ _ _ h => h) (.inl ⟨by kernel_rfl, fun w hm => by obtain ⟨m0, m1, m2, m3, m4, m5, m6⟩ := HMM.out w hm; clear m1 m2 m3 m4 m5 m6; go_simp⟩) ?_
            refine wpAnyM_take (i := 6) (v := .agg #[.slice (some ⟨ga, oa, none⟩) l.length ca]) rfl (by kernel_rfl) (by kernel_rfl) (by kernel_rfl) (by kernel_rfl) (fun _ _ _ h => h) (.inl ⟨by kernel_rfl, fun w hm => by obtain ⟨m0, m1, m2, m3, m4, m5, m6⟩ := HMM.out w hm; clear m1 m2 m3 m4 m5 m6; go_simp⟩) ?_
            refine wpAnyM_take (i := 7) (v := .pointer (some ⟨w1.heap.size, 0, none⟩)) rfl (by kernel_rfl) (by kernel_rfl) (by kernel_rfl) (by kernel_rfl) (fun _ _ _ h => h) (.inl ⟨by kernel_rfl, fun w hm => by go_simp⟩) ?_
            refine wpAnyM_take (i := 8) (v := .string pa) rfl (by kernel_rfl) (by kernel_rfl) (by kernel_rfl) (by kernel_rfl) (fun _ _ _ h => h) (.inl ⟨by kernel_rfl, fun w hm => by obtain ⟨m0, m1, m2, m3, m4, m5, m6⟩ := HMM.out w hm; clear m0 m2 m3 m4 m5 m6; go_simp⟩) ?_
            refine wpAnyM_take (i := 13) (v := .pointer (some ⟨w.heap.size, 0, none⟩)) rfl (by kernel_rfl) (by kernel_rfl) (by kernel_rfl) (by kernel_rfl) (fun _ _ _ h => h) (.inl ⟨by kernel_rfl, fun w hm => by go_simp⟩) ?_
            refine wpAnyM_take (i := 14) (v := .slice (some ⟨ga, oa, none⟩) l.length ca) rfl (by kernel_rfl) (by kernel_rfl) (by kernel_rfl) (by kernel_rfl) (fun _ _ _ h => h) (.inl ⟨by kernel_rfl, fun w hm => by obtain ⟨m0, m1, m2, m3, m4, m5, m6⟩ := HMM.out w hm; clear m1 m2 m3 m4 m5 m6; go_simp⟩) ?_
            refine wpAnyM_take (i := 15) (v := .agg #[.slice (some ⟨ga, oa, none⟩) l.length ca]) rfl (by kernel_rfl) (by kernel_rfl) (by kernel_rfl) (by kernel_rfl) (fun _ _ _ h => h) (.inl ⟨by kernel_rfl, fun w hm => by obtain ⟨m0, m1, m2, m3, m4, m5, m6⟩ := HMM.out w hm; clear m1 m2 m3 m4 m5 m6; go_simp⟩) ?_
            refine wpAnyM_take (i := 16) (v := .pointer (some ⟨w1.heap.size, 1, none⟩)) rfl (by kernel_rfl) (by kernel_rfl) (by kernel_rfl) (by kernel_rfl) (fun _ _ _ h => h) (.inl ⟨by kernel_rfl, fun w hm => by go_simp⟩) ?_
            refine wpAnyM_take (i := 17) (v := .string pb) rfl (by kernel_rfl) (by kernel_rfl) (by kernel_rfl) (by kernel_rfl) (fun _ _ _ h => h) (.inl ⟨by kernel_rfl, fun w hm => by obtain ⟨m0, m1, m2, m3, m4, m5, m6⟩ := HMM.out w hm; clear m0 m1 m3 m4 m5 m6; go_simp⟩) ?_
            refine wpAnyM_ready (rs := [9, 23]) (by kernel_rfl) (by simp) (hM) ?_
            refine AllReadyM.cons rfl (fun K' hK => ?_) (AllReadyM.cons rfl (fun K' hK => ?_) (AllReadyM.nil))
            · rw [if_pos (by kernel_rfl)]
              go_simp
              go_at_call 51
              refine (HF1.out _ hM).mono ?_
              rintro _ wA ⟨rfl, hb5⟩
              have hM := bto hM hb5
              clear hb5
              refine hK _ _ ?_
              refine wpAnyM_take (i := 10) (v := .pointer (some ⟨ga, oa + j1 * 6, none⟩)) rfl (by kernel_rfl) (by kernel_rfl) (by kernel_rfl) (by kernel_rfl) (fun _ _ _ h => h) (.inl ⟨by kernel_rfl, fun w hm => by go_simp⟩) ?_
              refine wpAnyM_take (i := 11) (v := .pointer (some ⟨ga, oa + j1 * 6 + 2, none⟩)) rfl (by kernel_rfl) (by kernel_rfl) (by kernel_rfl) (by kernel_rfl) (fun _ _ _ h => h) (.inl ⟨by kernel_rfl, fun w hm => by go_simp⟩) ?_
              refine wpAnyM_take (i := 12) (v := .agg #[.int .i64 o1.x, .int .i64 o1.y]) rfl (by kernel_rfl) (by kernel_rfl) (by kernel_rfl) (by kernel_rfl) (fun _ _ _ h => h) (.inl ⟨by kernel_rfl, fun w hm => by obtain ⟨m0, m1, m2, m3, m4, m5, m6⟩ := HMM.out w hm; clear m0 m1 m2 m5 m6; go_simp⟩) ?_
              refine wpAnyM_ready (rs := [18, 23]) (by kernel_rfl) (by simp) (hM) ?_
              refine AllReadyM.cons rfl (fun K' hK => ?_) (AllReadyM.cons rfl (fun K' hK => ?_) (AllReadyM.nil))
              · rw [if_pos (by kernel_rfl)]
                go_simp
                go_at_call 51
                refine (HF2.out _ hM).mono ?_
                rintro _ wB ⟨rfl, hb5⟩
                have hM := bto hM hb5
                clear hb5
                refine hK _ _ ?_
                refine wpAnyM_take (i := 19) (v := .pointer (some ⟨ga, oa + j2 * 6, none⟩)) rfl (by kernel_rfl) (by kernel_rfl) (by kernel_rfl) (by kernel_rfl) (fun _ _ _ h => h) (.inl ⟨by kernel_rfl, fun w hm => by go_simp⟩) ?_
                refine wpAnyM_take (i := 20) (v := .pointer (some ⟨ga, oa + j2 * 6 + 2, none⟩)) rfl (by kernel_rfl) (by kernel_rfl) (by kernel_rfl) (by kernel_rfl) (fun _ _ _ h => h) (.inl ⟨by kernel_rfl, fun w hm => by go_simp⟩) ?_
                refine wpAnyM_take (i := 21) (v := .agg #[.int .i64 o2.x, .int .i64 o2.y]) rfl (by kernel_rfl) (by kernel_rfl) (by kernel_rfl) (by kernel_rfl) (fun _ _ _ h => h) (.inl ⟨by kernel_rfl, fun w hm => by obtain ⟨m0, m1, m2, m3, m4, m5, m6⟩ := HMM.out w hm; clear m0 m1 m2 m3 m4; go_simp⟩) ?_
                refine wpAnyM_ready (rs := [22, 23]) (by kernel_rfl) (by simp) (hM) ?_
                refine AllReadyM.cons rfl (fun K' hK => ?_) (AllReadyM.cons rfl (fun K' hK => ?_) (AllReadyM.nil))
                · rw [if_pos (by kernel_rfl)]
                  go_simp
                  refine hK _ _ ?_
                  refine wpAnyM_ready (rs := [23]) (by kernel_rfl) (by simp) (hM) ?_
                  refine AllReadyM.cons rfl (fun K' hK => ?_) (AllReadyM.nil)
                  rw [if_pos (by kernel_rfl)]
                  go_simp
                  have hq := heap_alloc_new wB (.cells zeroD 75)
                  have hMq := bto hM ((Below.refl wB.heap.size wB).alloc (Nat.le_refl _) (.cells zeroD 75))
                  have hgb : wc.heap.size ≤ wB.heap.size := hM.size
                  obtain ⟨gb, hgbe⟩ : ∃ gb, wB.heap.size = gb := ⟨_, rfl⟩
                  unfold zeroD at hq hMq
                  rw [hgbe] at hq hgb ⊢
                  clear hgbe hM
                  generalize wB.alloc _ = wQ at *
                  have hM := hMq
                  clear hMq
                  refine hK _ _ ?_
                  refine wpAnyM_ready (rs := [24]) (by kernel_rfl) (by simp) (hM) ?_
                  refine AllReadyM.cons rfl (fun K' hK => ?_) (AllReadyM.nil)
                  obtain ⟨⟨x0, x1, x2, x3, x4, x5, x6⟩, y0, y1, y2, y3, y4, y5, y6⟩ := row7 hq
                  rw [if_pos (by kernel_rfl)]
                  go_simp
                  refine hK _ _ ?_
                  refine wpAnyM_done (by kernel_rfl) (by kernel_rfl) ?_ _
                  go_wp2_with fail
                  go_meet
                  refine ⟨gb, rfl, hide ?_, hide ⟨((((((hM.setCell (p := ⟨gb, 0, none⟩) hgb _).setCell (p := ⟨gb, 1, none⟩) hgb _).setCell (p := ⟨gb, 2, none⟩) hgb _).setCell (p := ⟨gb, 3, none⟩) hgb _).setCell (p := ⟨gb, 4, none⟩) hgb _).setCell (p := ⟨gb, 5, none⟩) hgb _).setCell (p := ⟨gb, 6, none⟩) hgb _, hgb⟩⟩
                  unfold encD
                  rw [HP1.out, HP2.out]
                  exact put7 hq _ _ _ _ _ _ _
                · rw [if_pos (by kernel_rfl)]
                  go_simp
                  have hq := heap_alloc_new wB (.cells zeroD 75)
                  have hMq := bto hM ((Below.refl wB.heap.size wB).alloc (Nat.le_refl _) (.cells zeroD 75))
                  have hgb : wc.heap.size ≤ wB.heap.size := hM.size
                  obtain ⟨gb, hgbe⟩ : ∃ gb, wB.heap.size = gb := ⟨_, rfl⟩
                  unfold zeroD at hq hMq
                  rw [hgbe] at hq hgb ⊢
                  clear hgbe hM
                  generalize wB.alloc _ = wQ at *
                  have hM := hMq
                  clear hMq
                  refine hK _ _ ?_
                  refine wpAnyM_ready (rs := [22]) (by kernel_rfl) (by simp) (hM) ?_
                  refine AllReadyM.cons rfl (fun K' hK => ?_) (AllReadyM.nil)
                  rw [if_pos (by kernel_rfl)]
                  go_simp
                  refine hK _ _ ?_
                  refine wpAnyM_ready (rs := [24]) (by kernel_rfl) (by simp) (hM) ?_
                  refine AllReadyM.cons rfl (fun K' hK => ?_) (AllReadyM.nil)
                  obtain ⟨⟨x0, x1, x2, x3, x4, x5, x6⟩, y0, y1, y2, y3, y4, y5, y6⟩ := row7 hq
                  rw [if_pos (by kernel_rfl)]
                  go_simp
                  refine hK _ _ ?_
                  refine wpAnyM_done (by kernel_rfl) (by kernel_rfl) ?_ _
                  go_wp2_with fail
                  go_meet
                  refine ⟨gb, rfl, hide ?_, hide ⟨((((((hM.setCell (p := ⟨gb, 0, none⟩) hgb _).setCell (p := ⟨gb, 1, none⟩) hgb _).setCell (p := ⟨gb, 2, none⟩) hgb _).setCell (p := ⟨gb, 3, none⟩) hgb _).setCell (p := ⟨gb, 4, none⟩) hgb _).setCell (p := ⟨gb, 5, none⟩) hgb _).setCell (p := ⟨gb, 6, none⟩) hgb _, hgb⟩⟩
                  unfold encD
                  rw [HP1.out, HP2.out]
                  exact put7 hq _ _ _ _ _ _ _
              · rw [if_pos (by kernel_rfl)]
                go_simp
                have hq := heap_alloc_new wA (.cells zeroD 75)
                have hMq := bto hM ((Below.refl wA.heap.size wA).alloc (Nat.le_refl _) (.cells zeroD 75))
                have hgb : wc.heap.size ≤ wA.heap.size := hM.size
                obtain ⟨gb, hgbe⟩ : ∃ gb, wA.heap.size = gb := ⟨_, rfl⟩
                unfold zeroD at hq hMq
                rw [hgbe] at hq hgb ⊢
                clear hgbe hM
                generalize wA.alloc _ = wQ at *
                have hM := hMq
                clear hMq
                refine hK _ _ ?_
                refine wpAnyM_ready (rs := [18]) (by kernel_rfl) (by simp) (hM) ?_
                refine AllReadyM.cons rfl (fun K' hK => ?_) (AllReadyM.nil)
                rw [if_pos (by kernel_rfl)]
                go_simp
                go_at_call 51
                refine (HF2.out _ hM).mono ?_
                rintro _ wB ⟨rfl, hb5⟩
                have hM := bto hM hb5
                have hq := blkB hb5 hq
                clear hb5
                refine hK _ _ ?_
                refine wpAnyM_take (i := 19) (v := .pointer (some ⟨ga, oa + j2 * 6, none⟩)) rfl (by kernel_rfl) (by kernel_rfl) (by kernel_rfl) (by kernel_rfl) (fun _ _ _ h => h) (.inl ⟨by kernel_rfl, fun w hm => by go_simp⟩) ?_
                refine wpAnyM_take (i := 20) (v := .pointer (some ⟨ga, oa + j2 * 6 + 2, none⟩)) rfl (by kernel_rfl) (by kernel_rfl) (by kernel_rfl) (by kernel_rfl) (fun _ _ _ h => h) (.inl ⟨by kernel_rfl, fun w hm => by go_simp⟩) ?_
                refine wpAnyM_take (i := 21) (v := .agg #[.int .i64 o2.x, .int .i64 o2.y]) rfl (by kernel_rfl) (by kernel_rfl) (by kernel_rfl) (by kernel_rfl) (fun _ _ _ h => h) (.inl ⟨by kernel_rfl, fun w hm => by obtain ⟨m0, m1, m2, m3, m4, m5, m6⟩ := HMM.out w hm; clear m0 m1 m2 m3 m4; go_simp⟩) ?_
                refine wpAnyM_ready (rs := [22]) (by kernel_rfl) (by simp) (hM) ?_
                refine AllReadyM.cons rfl (fun K' hK => ?_) (AllReadyM.nil)
                rw [if_pos (by kernel_rfl)]
                go_simp
                refine hK _ _ ?_
                refine wpAnyM_ready (rs := [24]) (by kernel_rfl) (by simp) (hM) ?_
                refine AllReadyM.cons rfl (fun K' hK => ?_) (AllReadyM.nil)
                obtain ⟨⟨x0, x1, x2, x3, x4, x5, x6⟩, y0, y1, y2, y3, y4, y5, y6⟩ := row7 hq
                rw [if_pos (by kernel_rfl)]
                go_simp
                refine hK _ _ ?_
                refine wpAnyM_done (by kernel_rfl) (by kernel_rfl) ?_ _
                go_wp2_with fail
                go_meet
                refine ⟨gb, rfl, hide ?_, hide ⟨((((((hM.setCell (p := ⟨gb, 0, none⟩) hgb _).setCell (p := ⟨gb, 1, none⟩) hgb _).setCell (p := ⟨gb, 2, none⟩) hgb _).setCell (p := ⟨gb, 3, none⟩) hgb _).setCell (p := ⟨gb, 4, none⟩) hgb _).setCell (p := ⟨gb, 5, none⟩) hgb _).setCell (p := ⟨gb, 6, none⟩) hgb _, hgb⟩⟩
                unfold encD
                rw [HP1.out, HP2.out]
                exact put7 hq _ _ _ _ _ _ _
            · rw [if_pos (by kernel_rfl)]
              go_simp
              have hq := heap_alloc_new wd (.cells zeroD 75)
              have hMq := bto hM ((Below.refl wd.heap.size wd).alloc (Nat.le_refl _) (.cells zeroD 75))
              have hgb : wc.heap.size ≤ wd.heap.size := hM.size
              obtain ⟨gb, hgbe⟩ : ∃ gb, wd.heap.size = gb := ⟨_, rfl⟩
              unfold zeroD at hq hMq
              rw [hgbe] at hq hgb ⊢
              clear hgbe hM
              generalize wd.alloc _ = wQ at *
              have hM := hMq
              clear hMq
              refine hK _ _ ?_
              refine wpAnyM_ready (rs := [9]) (by kernel_rfl) (by simp) (hM) ?_
              refine AllReadyM.cons rfl (fun K' hK => ?_) (AllReadyM.nil)
              rw [if_pos (by kernel_rfl)]
              go_simp
              go_at_call 51
              refine (HF1.out _ hM).mono ?_
              rintro _ wA ⟨rfl, hb5⟩
              have hM := bto hM hb5
              have hq := blkB hb5 hq
              clear hb5
              refine hK _ _ ?_
              refine wpAnyM_take (i := 10) (v := .pointer (some ⟨ga, oa + j1 * 6, none⟩)) rfl (by kernel_rfl) (by kernel_rfl) (by kernel_rfl) (by kernel_rfl) (fun _ _ _ h => h) (.inl ⟨by kernel_rfl, fun w hm => by go_simp⟩) ?_
              refine wpAnyM_take (i := 11) (v := .pointer (some ⟨ga, oa + j1 * 6 + 2, none⟩)) rfl (by kernel_rfl) (by kernel_rfl) (by kernel_rfl) (by kernel_rfl) (fun _ _ _ h => h) (.inl ⟨by kernel_rfl, fun w hm => by go_simp⟩) ?_
              refine wpAnyM_take (i := 12) (v := .agg #[.int .i64 o1.x, .int .i64 o1.y]) rfl (by kernel_rfl) (by kernel_rfl) (by kernel_rfl) (by kernel_rfl) (fun _ _ _ h => h) (.inl ⟨by kernel_rfl, fun w hm => by obtain ⟨m0, m1, m2, m3, m4, m5, m6⟩ := HMM.out w hm; clear m0 m1 m2 m5 m6; go_simp⟩) ?_
              refine wpAnyM_ready (rs := [18]) (by kernel_rfl) (by simp) (hM) ?_
              refine AllReadyM.cons rfl (fun K' hK => ?_) (AllReadyM.nil)
              rw [if_pos (by kernel_rfl)]
              go_simp
              go_at_call 51
              refine (HF2.out _ hM).mono ?_
              rintro _ wB ⟨rfl, hb5⟩
              have hM := bto hM hb5
              have hq := blkB hb5 hq
              clear hb5
              refine hK _ _ ?_
              refine wpAnyM_take (i := 19) (v := .pointer (some ⟨ga, oa + j2 * 6, none⟩)) rfl (by kernel_rfl) (by kernel_rfl) (by kernel_rfl) (by kernel_rfl) (fun _ _ _ h => h) (.inl ⟨by kernel_rfl, fun w hm => by go_simp⟩) ?_
              refine wpAnyM_take (i := 20) (v := .pointer (some ⟨ga, oa + j2 * 6 + 2, none⟩)) rfl (by kernel_rfl) (by kernel_rfl) (by kernel_rfl) (by kernel_rfl) (fun _ _ _ h => h) (.inl ⟨by kernel_rfl, fun w hm => by go_simp⟩) ?_
              refine wpAnyM_take (i := 21) (v := .agg #[.int .i64 o2.x, .int .i64 o2.y]) rfl (by kernel_rfl) (by kernel_rfl) (by kernel_rfl) (by kernel_rfl) (fun _ _ _ h => h) (.inl ⟨by kernel_rfl, fun w hm => by obtain ⟨m0, m1, m2, m3, m4, m5, m6⟩ := HMM.out w hm; clear m0 m1 m2 m3 m4; go_simp⟩) ?_
              refine wpAnyM_ready (rs := [22]) (by kernel_rfl) (by simp) (hM) ?_
              refine AllReadyM.cons rfl (fun K' hK => ?_) (AllReadyM.nil)
              rw [if_pos (by kernel_rfl)]
              go_simp
              refine hK _ _ ?_
              refine wpAnyM_ready (rs := [24]) (by kernel_rfl) (by simp) (hM) ?_
              refine AllReadyM.cons rfl (fun K' hK => ?_) (AllReadyM.nil)
              obtain ⟨⟨x0, x1, x2, x3, x4, x5, x6⟩, y0, y1, y2, y3, y4, y5, y6⟩ := row7 hq
              rw [if_pos (by kernel_rfl)]
              go_simp
              refine hK _ _ ?_
              refine wpAnyM_done (by kernel_rfl) (by kernel_rfl) ?_ _
              go_wp2_with fail
              go_meet
              refine ⟨gb, rfl, hide ?_, hide ⟨((((((hM.setCell (p := ⟨gb, 0, none⟩) hgb _).setCell (p := ⟨gb, 1, none⟩) hgb _).setCell (p := ⟨gb, 2, none⟩) hgb _).setCell (p := ⟨gb, 3, none⟩) hgb _).setCell (p := ⟨gb, 4, none⟩) hgb _).setCell (p := ⟨gb, 5, none⟩) hgb _).setCell (p := ⟨gb, 6, none⟩) hgb _, hgb⟩⟩
              unfold encD
              rw [HP1.out, HP2.out]
              exact put7 hq _ _ _ _ _ _ _
          case rest =>
            obtain ⟨gb, rfl, hgb, hbw⟩ := hcut
            have HGB := hide hgb.out
            have HBX := hide hbw.out
            have HW6 := hide (bto HW.out hbw.out.1)
            have HWW6 := hide (bto HWW.out hbw.out.1)
            have HB6 := hide (HBW.out.below hbw.out.1)
            clear hgb hbw s0 s1
            go_upto_region 6 with (fail)
            obtain ⟨i0, hi0, hi1, hi2, hi3⟩ := info_parts3 info_bord
            have HI0 := hide hi0
            have HI1 := hide hi1
            have HI2 := hide hi2
            have HI3 := hide hi3
            clear hi0 hi1 hi2 hi3
            have hcap : L.length ≤ cap := by
              rcases HB6.out.row.2 with ⟨e, _⟩ | ⟨g', cap', cur, e, _, _, hc, _⟩
              · cases e
              · cases e; first | exact hc | omega
            have HPRE : Hid (∀ W, Below wc.heap.size wc W → ∀ (j : Nat) (u : Value), ((L.take k).flatMap (encD (ptO l)))[j]? = some u → W.cell? ((⟨g, 0, none⟩ : Addr).add j) = some u) := hide (fun W hW => (HB6.out.below hW).pre k)
            have HSUF : Hid (∀ W, Below wc.heap.size wc W → ∀ (j : Nat) (u : Value), ((L.drop k).flatMap (encD (ptO l)))[j]? = some u → W.cell? ((⟨g, k * 7, none⟩ : Addr).add j) = some u) := hide (fun W hW => (HB6.out.below hW).suf hk)
            have HONE : Hid (∀ k, (∀ u ∈ (L.take k).flatMap (encD (ptO l)), u.oneCell' = true) ∧ ∀ u ∈ (L.drop k).flatMap (encD (ptO l)), u.oneCell' = true) := hide (fun k => ⟨one_D HB6.out fun _ hx => List.mem_of_mem_take hx, one_D HB6.out fun _ hx => List.mem_of_mem_drop hx⟩)
            have HGM : Hid (∀ W, Below wc.heap.size wc W → W.heap[gb]? = some (.cells #[.string pa, .string pb, .int .i64 (ptO l pa).x, .int .i64 (ptO l pa).y, .int .i64 (ptO l pb).x, .int .i64 (ptO l pb).y, .slice none 0 0] 75 (0, 0))) := hide (fun W hW => blkB hW HGB.out)
            have HKI : Hid ((L.take k ++ ((pa, pb), (.slice none 0 0 : Value)) :: L.drop k)[k]? = some ((pa, pb), .slice none 0 0)) := hide (by
              rw [List.getElem?_append_right (by rw [List.length_take]; omega), List.length_take, Nat.min_eq_left hk, Nat.sub_self]
              rfl)
            have HLEN : Hid ((L.take k ++ ((pa, pb), (.slice none 0 0 : Value)) :: L.drop k).length ≤ 1001) := hide (by simp; omega)
            have HINS : Hid ((L.take k ++ ((pa, pb), (.slice none 0 0 : Value)) :: L.drop k).map Prod.fst = insP (pa, pb) (L.map Prod.fst)) := hide (by
              have h1 := insP_split (pa, pb) ((L.take k).map Prod.fst) ((L.drop k).map Prod.fst) HLO.out (fun q hq => by
                rw [List.head?_map, List.head?_drop, Option.map_eq_some_iff] at hq
                obtain ⟨⟨y, u⟩, hy, rfl⟩ := hq
                exact HNO.out y u hy)
              rw [List.head?_map, List.head?_drop, if_neg (fun e => by have := HBB.out.2 e; cases this), ← List.map_append, List.take_append_drop] at h1
              rw [h1, List.map_append, List.map_cons])
            have hcn : (cap = k) ∨ (k < cap) := by omega
            rcases hcn with hcn | hcn
            · have hcn2 : k = cap := hcn.symm
              clear hcn
              subst hcn2
              have HDN : Hid ((L.drop k).flatMap (encD (ptO l)) = []) := hide (by rw [List.drop_eq_nil_of_le (by omega)]; rfl)
              clear hcap
              refine wp_region_anyM (fun W => Below wc.heap.size wc W) 12 hmx ?_
              have hM := below_drew wc
              generalize wc.drew = wd at *
              simp only [List.size_toArray, List.length_cons, List.length_nil, Nat.reduceAdd]
              refine wpAnyM_take (i := 1) (v := .slice (some ⟨g, 0, none⟩) L.length k) rfl (by kernel_rfl) (by kernel_rfl) (by kernel_rfl) (by kernel_rfl) (fun _ _ _ h => h) (.inl ⟨by kernel_rfl, fun w hm => by go_simp⟩) ?_
              refine wpAnyM_take (i := 2) (v := .int .i64 k) rfl (by kernel_rfl) (by kernel_rfl) (by kernel_rfl) (by kernel_rfl) (fun _ _ _ h => h) (.inl ⟨by kernel_rfl, fun w hm => by go_simp⟩) ?_
              refine wpAnyM_take (i := 3) (v := .slice (some ⟨g, 0, none⟩) k k) rfl (by kernel_rfl) (by kernel_rfl) (by kernel_rfl) (by kernel_rfl) (fun _ _ _ h => h) (.inl ⟨by kernel_rfl, fun w hm => by go_simp⟩) ?_
              refine wpAnyM_take (i := 5) (v := .agg #[.string pa, .string pb, .int .i64 (ptO l pa).x, .int .i64 (ptO l pa).y, .int .i64 (ptO l pb).x, .int .i64 (ptO l pb).y, .slice none 0 0]) rfl (by kernel_rfl) (by kernel_rfl) (by kernel_rfl) (by kernel_rfl) (fun _ _ _ h => h) (.inl ⟨by kernel_rfl, fun w hm => by obtain ⟨⟨x0, x1, x2, x3, x4, x5, x6⟩, _⟩ := row7 (HGM.out w hm); go_simp⟩) ?_
              refine wpAnyM_take (i := 8) (v := .slice (some ⟨g, 0, none⟩) L.length k) rfl (by kernel_rfl) (by kernel_rfl) (by kernel_rfl) (by kernel_rfl) (fun _ _ _ h => h) (.inl ⟨by kernel_rfl, fun w hm => by go_simp⟩) ?_
              refine wpAnyM_take (i := 9) (v := .int .i64 k) rfl (by kernel_rfl) (by kernel_rfl) (by kernel_rfl) (by kernel_rfl) (fun _ _ _ h => h) (.inl ⟨by kernel_rfl, fun w hm => by go_simp⟩) ?_
              refine wpAnyM_take (i := 10) (v := .slice (some ⟨g, 0, none⟩) (L.length - k) 0) rfl (by kernel_rfl) (by kernel_rfl) (by kernel_rfl) (by kernel_rfl) (fun _ _ _ h => h) (.inl ⟨by kernel_rfl, fun w hm => by go_simp⟩) ?_
              refine wpAnyM_ready (rs := [0, 6]) (by kernel_rfl) (by simp) (hM) ?_
              refine AllReadyM.cons rfl (fun K' hK => ?_) (AllReadyM.cons rfl (fun K' hK => ?_) (AllReadyM.nil))
              · rw [if_pos (by kernel_rfl)]
                go_simp
                have hR := own_made wd 75 7
                have hMn := bto hM ((Below.refl wd.heap.size wd).alloc (Nat.le_refl _) (.cells #[] 75))
                have hR0 : wc.heap.size ≤ wd.heap.size := hM.size
                obtain ⟨e0, he0⟩ : ∃ e0, wd.heap.size = e0 := ⟨_, rfl⟩
                rw [he0] at hR hR0 ⊢
                clear he0 hM
                generalize wd.alloc (.cells #[] 75) = wE at *
                have hM := hMn
                clear hMn
                replace hR := own_lower hR hR0
                refine hK _ _ ?_
                refine wpAnyM_ready (rs := [4, 6]) (by kernel_rfl) (by simp) (hM) ?_
                refine AllReadyM.cons rfl (fun K' hK => ?_) (AllReadyM.cons rfl (fun K' hK => ?_) (AllReadyM.nil))
                · rw [if_pos (by kernel_rfl)]
                  refine wp_append_some (.tmp 95) (.tmp 98) 33 rfl wc.heap.size 75 i0 (.agg #[.string ⟨#[]⟩, .string ⟨#[]⟩, .int .i64 0, .int .i64 0, .int .i64 0, .int .i64 0, .slice none 0 0]) 7 88 Tryz.underlying33 HI0.out HI1.out HI2.out HI3.out rfl (by decide) e0 0 0 [] rfl hR ⟨g, 0, none⟩ k k ((L.take k).flatMap (encD (ptO l))) rfl (by rw [flatD_len, List.length_take, Nat.min_eq_left hk]) (HPRE.out _ hM) (HONE.out k).1 (by unfold maxLen; omega) (by omega) hM.size ?_
                  intro g1 c1 wG hr1 hg1
                  rw [List.nil_append] at hr1
                  have hM2 := below_row hM hg1 (fun r e => by rw [← Option.some.inj e]; exact hR0)
                  clear hM hg1 hR
                  have hM := hM2
                  have hR := hr1
                  clear hM2 hr1
                  obtain ⟨n1, hn1⟩ : ∃ n1, 0 + k = n1 := ⟨_, rfl⟩
                  rw [hn1] at hR ⊢
                  have HN1 := hide hn1
                  clear hn1
                  refine hK _ _ ?_
                  refine wpAnyM_ready (rs := [6]) (by kernel_rfl) (by simp) (hM) ?_
                  refine AllReadyM.cons rfl (fun K' hK => ?_) (AllReadyM.nil)
                  rw [if_pos (by kernel_rfl)]
                  go_simp
                  have hN := heap_alloc_new wG (.cells #[.string pa, .string pb, .int .i64 (ptO l pa).x, .int .i64 (ptO l pa).y, .int .i64 (ptO l pb).x, .int .i64 (ptO l pb).y, .slice none 0 0] 75)
                  have hMn := bto hM ((Below.refl wG.heap.size wG).alloc (Nat.le_refl _) (.cells #[.string pa, .string pb, .int .i64 (ptO l pa).x, .int .i64 (ptO l pa).y, .int .i64 (ptO l pb).x, .int .i64 (ptO l pb).y, .slice none 0 0] 75))
                  have hq := own_below hR ((Below.refl wG.heap.size wG).alloc (Nat.le_refl _) (.cells #[.string pa, .string pb, .int .i64 (ptO l pa).x, .int .i64 (ptO l pa).y, .int .i64 (ptO l pb).x, .int .i64 (ptO l pb).y, .slice none 0 0] 75))
                  have hne : wG.heap.size ≠ g1 := Nat.ne_of_gt (own_base hR (b := g1) rfl).2
                  clear hR
                  have hR := hq
                  clear hq
                  obtain ⟨q0, hq0⟩ : ∃ q0, wG.heap.size = q0 := ⟨_, rfl⟩
                  rw [hq0] at hN hne ⊢
                  clear hq0 hM
                  generalize wG.alloc _ = wN at *
                  have hM := hMn
                  clear hMn
                  refine hK _ _ ?_
                  refine wpAnyM_ready (rs := [7]) (by kernel_rfl) (by simp) (hM) ?_
                  refine AllReadyM.cons rfl (fun K' hK => ?_) (AllReadyM.nil)
                  rw [if_pos (by kernel_rfl)]
                  refine wp_append_some (.tmp 99) (.tmp 101) 33 rfl wc.heap.size 75 i0 (.agg #[.string ⟨#[]⟩, .string ⟨#[]⟩, .int .i64 0, .int .i64 0, .int .i64 0, .int .i64 0, .slice none 0 0]) 7 88 Tryz.underlying33 HI0.out HI1.out HI2.out HI3.out rfl (by decide) g1 n1 c1 ((L.take k).flatMap (encD (ptO l))) rfl hR ⟨q0, 0, none⟩ 1 1 [(.string pa : Value), .string pb, .int .i64 (ptO l pa).x, .int .i64 (ptO l pa).y, .int .i64 (ptO l pb).x, .int .i64 (ptO l pb).y, .slice none 0 0] rfl rfl (fun j u hj => World.news_of_block hN j u hj) (fun u hu => by simp at hu; rcases hu with rfl | rfl | rfl | rfl | rfl | rfl | rfl <;> rfl) (by have := HN1.out; unfold maxLen; omega) (by have := HN1.out; omega) hM.size ?_
                  intro g2 c2 wP hr2 hg2
                  have hM2 := below_row hM hg2 (fun r e => by rw [← Option.some.inj e]; exact (own_base hR (b := g1) rfl).1)
                  clear hM hg2 hR
                  have hM := hM2
                  have hR := hr2
                  clear hM2 hr2
                  obtain ⟨n2, hn2⟩ : ∃ n2, n1 + 1 = n2 := ⟨_, rfl⟩
                  rw [hn2] at hR ⊢
                  have HN2 := hide hn2
                  clear hn2 hN
                  refine hK _ _ ?_
                  refine wpAnyM_ready (rs := [11]) (by kernel_rfl) (by simp) (hM) ?_
                  refine AllReadyM.cons rfl (fun K' hK => ?_) (AllReadyM.nil)
                  rw [if_pos (by kernel_rfl)]
                  refine wp_append_some (.tmp 102) (.tmp 105) 33 rfl wc.heap.size 75 i0 (.agg #[.string ⟨#[]⟩, .string ⟨#[]⟩, .int .i64 0, .int .i64 0, .int .i64 0, .int .i64 0, .slice none 0 0]) 7 88 Tryz.underlying33 HI0.out HI1.out HI2.out HI3.out rfl (by decide) g2 n2 c2 ((L.take k).flatMap (encD (ptO l)) ++ [(.string pa : Value), .string pb, .int .i64 (ptO l pa).x, .int .i64 (ptO l pa).y, .int .i64 (ptO l pb).x, .int .i64 (ptO l pb).y, .slice none 0 0]) rfl hR ⟨g, 0, none⟩ (L.length - k) 0 ((L.drop k).flatMap (encD (ptO l))) rfl (by rw [flatD_len, List.length_drop]) (fun j u hj => by rw [HDN.out] at hj; cases hj) (HONE.out k).2 (by have := HN1.out; have := HN2.out; unfold maxLen; omega) (by have := HN1.out; have := HN2.out; omega) hM.size ?_
                  intro g3 c3 wT hr3 hg3
                  have hM2 := below_row hM hg3 (fun r e => by rw [← Option.some.inj e]; exact (own_base hR (b := g2) rfl).1)
                  clear hM hg3 hR
                  have hM := hM2
                  clear hM2
                  obtain ⟨n3, hn3⟩ : ∃ n3, n2 + (L.length - k) = n3 := ⟨_, rfl⟩
                  rw [hn3] at hr3 ⊢
                  have HN3 := hide hn3
                  clear hn3
                  refine hK _ _ ?_
                  refine wpAnyM_ready (rs := [12]) (by kernel_rfl) (by simp) (hM) ?_
                  refine AllReadyM.cons rfl (fun K' hK => ?_) (AllReadyM.nil)
                  rw [if_pos (by kernel_rfl)]
                  go_simp
                  refine hK _ _ ?_
                  refine wpAnyM_done (by kernel_rfl) (by kernel_rfl) ?_ _
                  have hn : n3 = (L.take k ++ ((pa, pb), (.slice none 0 0 : Value)) :: L.drop k).length := by have := HN1.out; have := HN2.out; have := HN3.out; simp; omega
                  rw [hn] at hr3 ⊢
                  have HEND := hide (ins_end HB6.out hk hM HW6.out.size hr3)
                  have HLT := hide (bto HW6.out hM)
                  have HGT := hide (show Below w.heap.size w wT ∧ (g3 = g ∨ w.heap.size ≤ g3) from ⟨bto HWW6.out hM, .inr (Nat.le_trans HWW6.out.size (own_base hr3 (b := g3) rfl).1)⟩)
                  clear hr3 hM
                  go_wp2_with fail
                  go_meet
                  exact ⟨g3, c3, _, .slice none 0 0, rfl, HEND, HKI, HINS, HLEN, HLT, HGT⟩
                · rw [if_pos (by kernel_rfl)]
                  go_simp
                  have hN := heap_alloc_new wE (.cells #[.string pa, .string pb, .int .i64 (ptO l pa).x, .int .i64 (ptO l pa).y, .int .i64 (ptO l pb).x, .int .i64 (ptO l pb).y, .slice none 0 0] 75)
                  have hMn := bto hM ((Below.refl wE.heap.size wE).alloc (Nat.le_refl _) (.cells #[.string pa, .string pb, .int .i64 (ptO l pa).x, .int .i64 (ptO l pa).y, .int .i64 (ptO l pb).x, .int .i64 (ptO l pb).y, .slice none 0 0] 75))
                  have hq := own_below hR ((Below.refl wE.heap.size wE).alloc (Nat.le_refl _) (.cells #[.string pa, .string pb, .int .i64 (ptO l pa).x, .int .i64 (ptO l pa).y, .int .i64 (ptO l pb).x, .int .i64 (ptO l pb).y, .slice none 0 0] 75))
                  have hne : wE.heap.size ≠ e0 := Nat.ne_of_gt (own_base hR (b := e0) rfl).2
                  clear hR
                  have hR := hq
                  clear hq
                  obtain ⟨q0, hq0⟩ : ∃ q0, wE.heap.size = q0 := ⟨_, rfl⟩
                  rw [hq0] at hN hne ⊢
                  clear hq0 hM
                  generalize wE.alloc _ = wN at *
                  have hM := hMn
                  clear hMn
                  refine hK _ _ ?_
                  refine wpAnyM_ready (rs := [4]) (by kernel_rfl) (by simp) (hM) ?_
                  refine AllReadyM.cons rfl (fun K' hK => ?_) (AllReadyM.nil)
                  rw [if_pos (by kernel_rfl)]
                  refine wp_append_some (.tmp 95) (.tmp 98) 33 rfl wc.heap.size 75 i0 (.agg #[.string ⟨#[]⟩, .string ⟨#[]⟩, .int .i64 0, .int .i64 0, .int .i64 0, .int .i64 0, .slice none 0 0]) 7 88 Tryz.underlying33 HI0.out HI1.out HI2.out HI3.out rfl (by decide) e0 0 0 [] rfl hR ⟨g, 0, none⟩ k k ((L.take k).flatMap (encD (ptO l))) rfl (by rw [flatD_len, List.length_take, Nat.min_eq_left hk]) (HPRE.out _ hM) (HONE.out k).1 (by unfold maxLen; omega) (by omega) hM.size ?_
                  intro g1 c1 wG hr1 hg1
                  rw [List.nil_append] at hr1
                  have hq := (hg1.block q0 (lt_of_block hN) (fun e => hne (Option.some.inj e))).trans hN
                  clear hN
                  have hN := hq
                  clear hq
                  have hM2 := below_row hM hg1 (fun r e => by rw [← Option.some.inj e]; exact hR0)
                  clear hM hg1 hR
                  have hM := hM2
                  have hR := hr1
                  clear hM2 hr1
                  obtain ⟨n1, hn1⟩ : ∃ n1, 0 + k = n1 := ⟨_, rfl⟩
                  rw [hn1] at hR ⊢
                  have HN1 := hide hn1
                  clear hn1
                  refine hK _ _ ?_
                  refine wpAnyM_ready (rs := [7]) (by kernel_rfl) (by simp) (hM) ?_
                  refine AllReadyM.cons rfl (fun K' hK => ?_) (AllReadyM.nil)
                  rw [if_pos (by kernel_rfl)]
                  refine wp_append_some (.tmp 99) (.tmp 101) 33 rfl wc.heap.size 75 i0 (.agg #[.string ⟨#[]⟩, .string ⟨#[]⟩, .int .i64 0, .int .i64 0, .int .i64 0, .int .i64 0, .slice none 0 0]) 7 88 Tryz.underlying33 HI0.out HI1.out HI2.out HI3.out rfl (by decide) g1 n1 c1 ((L.take k).flatMap (encD (ptO l))) rfl hR ⟨q0, 0, none⟩ 1 1 [(.string pa : Value), .string pb, .int .i64 (ptO l pa).x, .int .i64 (ptO l pa).y, .int .i64 (ptO l pb).x, .int .i64 (ptO l pb).y, .slice none 0 0] rfl rfl (fun j u hj => World.news_of_block hN j u hj) (fun u hu => by simp at hu; rcases hu with rfl | rfl | rfl | rfl | rfl | rfl | rfl <;> rfl) (by have := HN1.out; unfold maxLen; omega) (by have := HN1.out; omega) hM.size ?_
                  intro g2 c2 wP hr2 hg2
                  have hM2 := below_row hM hg2 (fun r e => by rw [← Option.some.inj e]; exact (own_base hR (b := g1) rfl).1)
                  clear hM hg2 hR
                  have hM := hM2
                  have hR := hr2
                  clear hM2 hr2
                  obtain ⟨n2, hn2⟩ : ∃ n2, n1 + 1 = n2 := ⟨_, rfl⟩
                  rw [hn2] at hR ⊢
                  have HN2 := hide hn2
                  clear hn2 hN
                  refine hK _ _ ?_
                  refine wpAnyM_ready (rs := [11]) (by kernel_rfl) (by simp) (hM) ?_
                  refine AllReadyM.cons rfl (fun K' hK => ?_) (AllReadyM.nil)
                  rw [if_pos (by kernel_rfl)]
                  refine wp_append_some (.tmp 102) (.tmp 105) 33 rfl wc.heap.size 75 i0 (.agg #[.string ⟨#[]⟩, .string ⟨#[]⟩, .int .i64 0, .int .i64 0, .int .i64 0, .int .i64 0, .slice none 0 0]) 7 88 Tryz.underlying33 HI0.out HI1.out HI2.out HI3.out rfl (by decide) g2 n2 c2 ((L.take k).flatMap (encD (ptO l)) ++ [(.string pa : Value), .string pb, .int .i64 (ptO l pa).x, .int .i64 (ptO l pa).y, .int .i64 (ptO l pb).x, .int .i64 (ptO l pb).y, .slice none 0 0]) rfl hR ⟨g, 0, none⟩ (L.length - k) 0 ((L.drop k).flatMap (encD (ptO l))) rfl (by rw [flatD_len, List.length_drop]) (fun j u hj => by rw [HDN.out] at hj; cases hj) (HONE.out k).2 (by have := HN1.out; have := HN2.out; unfold maxLen; omega) (by have := HN1.out; have := HN2.out; omega) hM.size ?_
                  intro g3 c3 wT hr3 hg3
                  have hM2 := below_row hM hg3 (fun r e => by rw [← Option.some.inj e]; exact (own_base hR (b := g2) rfl).1)
                  clear hM hg3 hR
                  have hM := hM2
                  clear hM2
                  obtain ⟨n3, hn3⟩ : ∃ n3, n2 + (L.length - k) = n3 := ⟨_, rfl⟩
                  rw [hn3] at hr3 ⊢
                  have HN3 := hide hn3
                  clear hn3
                  refine hK _ _ ?_
                  refine wpAnyM_ready (rs := [12]) (by kernel_rfl) (by simp) (hM) ?_
                  refine AllReadyM.cons rfl (fun K' hK => ?_) (AllReadyM.nil)
                  rw [if_pos (by kernel_rfl)]
                  go_simp
                  refine hK _ _ ?_
                  refine wpAnyM_done (by kernel_rfl) (by kernel_rfl) ?_ _
                  have hn : n3 = (L.take k ++ ((pa, pb), (.slice none 0 0 : Value)) :: L.drop k).length := by have := HN1.out; have := HN2.out; have := HN3.out; simp; omega
                  rw [hn] at hr3 ⊢
                  have HEND := hide (ins_end HB6.out hk hM HW6.out.size hr3)
                  have HLT := hide (bto HW6.out hM)
                  have HGT := hide (show Below w.heap.size w wT ∧ (g3 = g ∨ w.heap.size ≤ g3) from ⟨bto HWW6.out hM, .inr (Nat.le_trans HWW6.out.size (own_base hr3 (b := g3) rfl).1)⟩)
                  clear hr3 hM
                  go_wp2_with fail
                  go_meet
                  exact ⟨g3, c3, _, .slice none 0 0, rfl, HEND, HKI, HINS, HLEN, HLT, HGT⟩
              · rw [if_pos (by kernel_rfl)]
                go_simp
                have hN := heap_alloc_new wd (.cells #[.string pa, .string pb, .int .i64 (ptO l pa).x, .int .i64 (ptO l pa).y, .int .i64 (ptO l pb).x, .int .i64 (ptO l pb).y, .slice none 0 0] 75)
                have hMn := bto hM ((Below.refl wd.heap.size wd).alloc (Nat.le_refl _) (.cells #[.string pa, .string pb, .int .i64 (ptO l pa).x, .int .i64 (ptO l pa).y, .int .i64 (ptO l pb).x, .int .i64 (ptO l pb).y, .slice none 0 0] 75))
                obtain ⟨q0, hq0⟩ : ∃ q0, wd.heap.size = q0 := ⟨_, rfl⟩
                rw [hq0] at hN ⊢
                clear hq0 hM
                generalize wd.alloc _ = wN at *
                have hM := hMn
                clear hMn
                refine hK _ _ ?_
                refine wpAnyM_ready (rs := [0]) (by kernel_rfl) (by simp) (hM) ?_
                refine AllReadyM.cons rfl (fun K' hK => ?_) (AllReadyM.nil)
                rw [if_pos (by kernel_rfl)]
                go_simp
                have hR := own_made wN 75 7
                have hMn := bto hM ((Below.refl wN.heap.size wN).alloc (Nat.le_refl _) (.cells #[] 75))
                have hR0 : wc.heap.size ≤ wN.heap.size := hM.size
                have hq := blkB ((Below.refl wN.heap.size wN).alloc (Nat.le_refl _) (.cells #[] 75)) hN
                have hne : q0 ≠ wN.heap.size := Nat.ne_of_lt (lt_of_block hN)
                clear hN
                have hN := hq
                clear hq
                obtain ⟨e0, he0⟩ : ∃ e0, wN.heap.size = e0 := ⟨_, rfl⟩
                rw [he0] at hR hR0 hne ⊢
                clear he0 hM
                generalize wN.alloc (.cells #[] 75) = wE at *
                have hM := hMn
                clear hMn
                replace hR := own_lower hR hR0
                refine hK _ _ ?_
                refine wpAnyM_ready (rs := [4]) (by kernel_rfl) (by simp) (hM) ?_
                refine AllReadyM.cons rfl (fun K' hK => ?_) (AllReadyM.nil)
                rw [if_pos (by kernel_rfl)]
                refine wp_append_some (.tmp 95) (.tmp 98) 33 rfl wc.heap.size 75 i0 (.agg #[.string ⟨#[]⟩, .string ⟨#[]⟩, .int .i64 0, .int .i64 0, .int .i64 0, .int .i64 0, .slice none 0 0]) 7 88 Tryz.underlying33 HI0.out HI1.out HI2.out HI3.out rfl (by decide) e0 0 0 [] rfl hR ⟨g, 0, none⟩ k k ((L.take k).flatMap (encD (ptO l))) rfl (by rw [flatD_len, List.length_take, Nat.min_eq_left hk]) (HPRE.out _ hM) (HONE.out k).1 (by unfold maxLen; omega) (by omega) hM.size ?_
                intro g1 c1 wG hr1 hg1
                rw [List.nil_append] at hr1
                have hq := (hg1.block q0 (lt_of_block hN) (fun e => hne (Option.some.inj e))).trans hN
                clear hN
                have hN := hq
                clear hq
                have hM2 := below_row hM hg1 (fun r e => by rw [← Option.some.inj e]; exact hR0)
                clear hM hg1 hR
                have hM := hM2
                have hR := hr1
                clear hM2 hr1
                obtain ⟨n1, hn1⟩ : ∃ n1, 0 + k = n1 := ⟨_, rfl⟩
                rw [hn1] at hR ⊢
                have HN1 := hide hn1
                clear hn1
                refine hK _ _ ?_
                refine wpAnyM_ready (rs := [7]) (by kernel_rfl) (by simp) (hM) ?_
                refine AllReadyM.cons rfl (fun K' hK => ?_) (AllReadyM.nil)
                rw [if_pos (by kernel_rfl)]
                refine wp_append_some (.tmp 99) (.tmp 101) 33 rfl wc.heap.size 75 i0 (.agg #[.string ⟨#[]⟩, .string ⟨#[]⟩, .int .i64 0, .int .i64 0, .int .i64 0, .int .i64 0, .slice none 0 0]) 7 88 Tryz.underlying33 HI0.out HI1.out HI2.out HI3.out rfl (by decide) g1 n1 c1 ((L.take k).flatMap (encD (ptO l))) rfl hR ⟨q0, 0, none⟩ 1 1 [(.string pa : Value), .string pb, .int .i64 (ptO l pa).x, .int .i64 (ptO l pa).y, .int .i64 (ptO l pb).x, .int .i64 (ptO l pb).y, .slice none 0 0] rfl rfl (fun j u hj => World.news_of_block hN j u hj) (fun u hu => by simp at hu; rcases hu with rfl | rfl | rfl | rfl | rfl | rfl | rfl <;> rfl) (by have := HN1.out; unfold maxLen; omega) (by have := HN1.out; omega) hM.size ?_
                intro g2 c2 wP hr2 hg2
                have hM2 := below_row hM hg2 (fun r e => by rw [← Option.some.inj e]; exact (own_base hR (b := g1) rfl).1)
                clear hM hg2 hR
                have hM := hM2
                have hR := hr2
                clear hM2 hr2
                obtain ⟨n2, hn2⟩ : ∃ n2, n1 + 1 = n2 := ⟨_, rfl⟩
                rw [hn2] at hR ⊢
                have HN2 := hide hn2
                clear hn2 hN
                refine hK _ _ ?_
                refine wpAnyM_ready (rs := [11]) (by kernel_rfl) (by simp) (hM) ?_
                refine AllReadyM.cons rfl (fun K' hK => ?_) (AllReadyM.nil)
                rw [if_pos (by kernel_rfl)]
                refine wp_append_some (.tmp 102) (.tmp 105) 33 rfl wc.heap.size 75 i0 (.agg #[.string ⟨#[]⟩, .string ⟨#[]⟩, .int .i64 0, .int .i64 0, .int .i64 0, .int .i64 0, .slice none 0 0]) 7 88 Tryz.underlying33 HI0.out HI1.out HI2.out HI3.out rfl (by decide) g2 n2 c2 ((L.take k).flatMap (encD (ptO l)) ++ [(.string pa : Value), .string pb, .int .i64 (ptO l pa).x, .int .i64 (ptO l pa).y, .int .i64 (ptO l pb).x, .int .i64 (ptO l pb).y, .slice none 0 0]) rfl hR ⟨g, 0, none⟩ (L.length - k) 0 ((L.drop k).flatMap (encD (ptO l))) rfl (by rw [flatD_len, List.length_drop]) (fun j u hj => by rw [HDN.out] at hj; cases hj) (HONE.out k).2 (by have := HN1.out; have := HN2.out; unfold maxLen; omega) (by have := HN1.out; have := HN2.out; omega) hM.size ?_
                intro g3 c3 wT hr3 hg3
                have hM2 := below_row hM hg3 (fun r e => by rw [← Option.some.inj e]; exact (own_base hR (b := g2) rfl).1)
                clear hM hg3 hR
                have hM := hM2
                clear hM2
                obtain ⟨n3, hn3⟩ : ∃ n3, n2 + (L.length - k) = n3 := ⟨_, rfl⟩
                rw [hn3] at hr3 ⊢
                have HN3 := hide hn3
                clear hn3
                refine hK _ _ ?_
                refine wpAnyM_ready (rs := [12]) (by kernel_rfl) (by simp) (hM) ?_
                refine AllReadyM.cons rfl (fun K' hK => ?_) (AllReadyM.nil)
                rw [if_pos (by kernel_rfl)]
                go_simp
                refine hK _ _ ?_
                refine wpAnyM_done (by kernel_rfl) (by kernel_rfl) ?_ _
                have hn : n3 = (L.take k ++ ((pa, pb), (.slice none 0 0 : Value)) :: L.drop k).length := by have := HN1.out; have := HN2.out; have := HN3.out; simp; omega
                rw [hn] at hr3 ⊢
                have HEND := hide (ins_end HB6.out hk hM HW6.out.size hr3)
                have HLT := hide (bto HW6.out hM)
                have HGT := hide (show Below w.heap.size w wT ∧ (g3 = g ∨ w.heap.size ≤ g3) from ⟨bto HWW6.out hM, .inr (Nat.le_trans HWW6.out.size (own_base hr3 (b := g3) rfl).1)⟩)
                clear hr3 hM
                go_wp2_with fail
                go_meet
                exact ⟨g3, c3, _, .slice none 0 0, rfl, HEND, HKI, HINS, HLEN, HLT, HGT⟩
            · refine wp_region_anyM (fun W => Below wc.heap.size wc W) 12 hmx ?_
              have hM := below_drew wc
              generalize wc.drew = wd at *
              simp only [List.size_toArray, List.length_cons, List.length_nil, Nat.reduceAdd]
              refine wpAnyM_take (i := 1) (v := .slice (some ⟨g, 0, none⟩) L.length cap) rfl (by kernel_rfl) (by kernel_rfl) (by kernel_rfl) (by kernel_rfl) (fun _ _ _ h => h) (.inl ⟨by kernel_rfl, fun w hm => by go_simp⟩) ?_
              refine wpAnyM_take (i := 2) (v := .int .i64 k) rfl (by kernel_rfl) (by kernel_rfl) (by kernel_rfl) (by kernel_rfl) (fun _ _ _ h => h) (.inl ⟨by kernel_rfl, fun w hm => by go_simp⟩) ?_
              refine wpAnyM_take (i := 3) (v := .slice (some ⟨g, 0, none⟩) k cap) rfl (by kernel_rfl) (by kernel_rfl) (by kernel_rfl) (by kernel_rfl) (fun _ _ _ h => h) (.inl ⟨by kernel_rfl, fun w hm => by go_simp; exact fun h => absurd h (by omega)⟩) ?_
              refine wpAnyM_take (i := 5) (v := .agg #[.string pa, .string pb, .int .i64 (ptO l pa).x, .int .i64 (ptO l pa).y, .int .i64 (ptO l pb).x, .int .i64 (ptO l pb).y, .slice none 0 0]) rfl (by kernel_rfl) (by kernel_rfl) (by kernel_rfl) (by kernel_rfl) (fun _ _ _ h => h) (.inl ⟨by kernel_rfl, fun w hm => by obtain ⟨⟨x0, x1, x2, x3, x4, x5, x6⟩, _⟩ := row7 (HGM.out w hm); go_simp⟩) ?_
              refine wpAnyM_take (i := 8) (v := .slice (some ⟨g, 0, none⟩) L.length cap) rfl (by kernel_rfl) (by kernel_rfl) (by kernel_rfl) (by kernel_rfl) (fun _ _ _ h => h) (.inl ⟨by kernel_rfl, fun w hm => by go_simp⟩) ?_
              refine wpAnyM_take (i := 9) (v := .int .i64 k) rfl (by kernel_rfl) (by kernel_rfl) (by kernel_rfl) (by kernel_rfl) (fun _ _ _ h => h) (.inl ⟨by kernel_rfl, fun w hm => by go_simp⟩) ?_
              refine wpAnyM_take (i := 10) (v := .slice (some ⟨g, k * 7, none⟩) (L.length - k) (cap - k)) rfl (by kernel_rfl) (by kernel_rfl) (by kernel_rfl) (by kernel_rfl) (fun _ _ _ h => h) (.inl ⟨by kernel_rfl, fun w hm => by go_simp; exact fun h => absurd h (by omega)⟩) ?_
              refine wpAnyM_ready (rs := [0, 6]) (by kernel_rfl) (by simp) (hM) ?_
              refine AllReadyM.cons rfl (fun K' hK => ?_) (AllReadyM.cons rfl (fun K' hK => ?_) (AllReadyM.nil))
              · rw [if_pos (by kernel_rfl)]
                go_simp
                have hR := own_made wd 75 7
                have hMn := bto hM ((Below.refl wd.heap.size wd).alloc (Nat.le_refl _) (.cells #[] 75))
                have hR0 : wc.heap.size ≤ wd.heap.size := hM.size
                obtain ⟨e0, he0⟩ : ∃ e0, wd.heap.size = e0 := ⟨_, rfl⟩
                rw [he0] at hR hR0 ⊢
                clear he0 hM
                generalize wd.alloc (.cells #[] 75) = wE at *
                have hM := hMn
                clear hMn
                replace hR := own_lower hR hR0
                refine hK _ _ ?_
                refine wpAnyM_ready (rs := [4, 6]) (by kernel_rfl) (by simp) (hM) ?_
                refine AllReadyM.cons rfl (fun K' hK => ?_) (AllReadyM.cons rfl (fun K' hK => ?_) (AllReadyM.nil))
                · rw [if_pos (by kernel_rfl)]
                  refine wp_append_some (.tmp 95) (.tmp 98) 33 rfl wc.heap.size 75 i0 (.agg #[.string ⟨#[]⟩, .string ⟨#[]⟩, .int .i64 0, .int .i64 0, .int .i64 0, .int .i64 0, .slice none 0 0]) 7 88 Tryz.underlying33 HI0.out HI1.out HI2.out HI3.out rfl (by decide) e0 0 0 [] rfl hR ⟨g, 0, none⟩ k cap ((L.take k).flatMap (encD (ptO l))) rfl (by rw [flatD_len, List.length_take, Nat.min_eq_left hk]) (HPRE.out _ hM) (HONE.out k).1 (by unfold maxLen; omega) (by omega) hM.size ?_
                  intro g1 c1 wG hr1 hg1
                  rw [List.nil_append] at hr1
                  have hM2 := below_row hM hg1 (fun r e => by rw [← Option.some.inj e]; exact hR0)
                  clear hM hg1 hR
                  have hM := hM2
                  have hR := hr1
                  clear hM2 hr1
                  obtain ⟨n1, hn1⟩ : ∃ n1, 0 + k = n1 := ⟨_, rfl⟩
                  rw [hn1] at hR ⊢
                  have HN1 := hide hn1
                  clear hn1
                  refine hK _ _ ?_
                  refine wpAnyM_ready (rs := [6]) (by kernel_rfl) (by simp) (hM) ?_
                  refine AllReadyM.cons rfl (fun K' hK => ?_) (AllReadyM.nil)
                  rw [if_pos (by kernel_rfl)]
                  go_simp
                  have hN := heap_alloc_new wG (.cells #[.string pa, .string pb, .int .i64 (ptO l pa).x, .int .i64 (ptO l pa).y, .int .i64 (ptO l pb).x, .int .i64 (ptO l pb).y, .slice none 0 0] 75)
                  have hMn := bto hM ((Below.refl wG.heap.size wG).alloc (Nat.le_refl _) (.cells #[.string pa, .string pb, .int .i64 (ptO l pa).x, .int .i64 (ptO l pa).y, .int .i64 (ptO l pb).x, .int .i64 (ptO l pb).y, .slice none 0 0] 75))
                  have hq := own_below hR ((Below.refl wG.heap.size wG).alloc (Nat.le_refl _) (.cells #[.string pa, .string pb, .int .i64 (ptO l pa).x, .int .i64 (ptO l pa).y, .int .i64 (ptO l pb).x, .int .i64 (ptO l pb).y, .slice none 0 0] 75))
                  have hne : wG.heap.size ≠ g1 := Nat.ne_of_gt (own_base hR (b := g1) rfl).2
                  clear hR
                  have hR := hq
                  clear hq
                  obtain ⟨q0, hq0⟩ : ∃ q0, wG.heap.size = q0 := ⟨_, rfl⟩
                  rw [hq0] at hN hne ⊢
                  clear hq0 hM
                  generalize wG.alloc _ = wN at *
                  have hM := hMn
                  clear hMn
                  refine hK _ _ ?_
                  refine wpAnyM_ready (rs := [7]) (by kernel_rfl) (by simp) (hM) ?_
                  refine AllReadyM.cons rfl (fun K' hK => ?_) (AllReadyM.nil)
                  rw [if_pos (by kernel_rfl)]
                  refine wp_append_some (.tmp 99) (.tmp 101) 33 rfl wc.heap.size 75 i0 (.agg #[.string ⟨#[]⟩, .string ⟨#[]⟩, .int .i64 0, .int .i64 0, .int .i64 0, .int .i64 0, .slice none 0 0]) 7 88 Tryz.underlying33 HI0.out HI1.out HI2.out HI3.out rfl (by decide) g1 n1 c1 ((L.take k).flatMap (encD (ptO l))) rfl hR ⟨q0, 0, none⟩ 1 1 [(.string pa : Value), .string pb, .int .i64 (ptO l pa).x, .int .i64 (ptO l pa).y, .int .i64 (ptO l pb).x, .int .i64 (ptO l pb).y, .slice none 0 0] rfl rfl (fun j u hj => World.news_of_block hN j u hj) (fun u hu => by simp at hu; rcases hu with rfl | rfl | rfl | rfl | rfl | rfl | rfl <;> rfl) (by have := HN1.out; unfold maxLen; omega) (by have := HN1.out; omega) hM.size ?_
                  intro g2 c2 wP hr2 hg2
                  have hM2 := below_row hM hg2 (fun r e => by rw [← Option.some.inj e]; exact (own_base hR (b := g1) rfl).1)
                  clear hM hg2 hR
                  have hM := hM2
                  have hR := hr2
                  clear hM2 hr2
                  obtain ⟨n2, hn2⟩ : ∃ n2, n1 + 1 = n2 := ⟨_, rfl⟩
                  rw [hn2] at hR ⊢
                  have HN2 := hide hn2
                  clear hn2 hN
                  refine hK _ _ ?_
                  refine wpAnyM_ready (rs := [11]) (by kernel_rfl) (by simp) (hM) ?_
                  refine AllReadyM.cons rfl (fun K' hK => ?_) (AllReadyM.nil)
                  rw [if_pos (by kernel_rfl)]
                  refine wp_append_some (.tmp 102) (.tmp 105) 33 rfl wc.heap.size 75 i0 (.agg #[.string ⟨#[]⟩, .string ⟨#[]⟩, .int .i64 0, .int .i64 0, .int .i64 0, .int .i64 0, .slice none 0 0]) 7 88 Tryz.underlying33 HI0.out HI1.out HI2.out HI3.out rfl (by decide) g2 n2 c2 ((L.take k).flatMap (encD (ptO l)) ++ [(.string pa : Value), .string pb, .int .i64 (ptO l pa).x, .int .i64 (ptO l pa).y, .int .i64 (ptO l pb).x, .int .i64 (ptO l pb).y, .slice none 0 0]) rfl hR ⟨g, k * 7, none⟩ (L.length - k) (cap - k) ((L.drop k).flatMap (encD (ptO l))) rfl (by rw [flatD_len, List.length_drop]) (HSUF.out _ hM) (HONE.out k).2 (by have := HN1.out; have := HN2.out; unfold maxLen; omega) (by have := HN1.out; have := HN2.out; omega) hM.size ?_
                  intro g3 c3 wT hr3 hg3
                  have hM2 := below_row hM hg3 (fun r e => by rw [← Option.some.inj e]; exact (own_base hR (b := g2) rfl).1)
                  clear hM hg3 hR
                  have hM := hM2
                  clear hM2
                  obtain ⟨n3, hn3⟩ : ∃ n3, n2 + (L.length - k) = n3 := ⟨_, rfl⟩
                  rw [hn3] at hr3 ⊢
                  have HN3 := hide hn3
                  clear hn3
                  refine hK _ _ ?_
                  refine wpAnyM_ready (rs := [12]) (by kernel_rfl) (by simp) (hM) ?_
                  refine AllReadyM.cons rfl (fun K' hK => ?_) (AllReadyM.nil)
                  rw [if_pos (by kernel_rfl)]
                  go_simp
                  refine hK _ _ ?_
                  refine wpAnyM_done (by kernel_rfl) (by kernel_rfl) ?_ _
                  have hn : n3 = (L.take k ++ ((pa, pb), (.slice none 0 0 : Value)) :: L.drop k).length := by have := HN1.out; have := HN2.out; have := HN3.out; simp; omega
                  rw [hn] at hr3 ⊢
                  have HEND := hide (ins_end HB6.out hk hM HW6.out.size hr3)
                  have HLT := hide (bto HW6.out hM)
                  have HGT := hide (show Below w.heap.size w wT ∧ (g3 = g ∨ w.heap.size ≤ g3) from ⟨bto HWW6.out hM, .inr (Nat.le_trans HWW6.out.size (own_base hr3 (b := g3) rfl).1)⟩)
                  clear hr3 hM
                  go_wp2_with fail
                  go_meet
                  exact ⟨g3, c3, _, .slice none 0 0, rfl, HEND, HKI, HINS, HLEN, HLT, HGT⟩
                · rw [if_pos (by kernel_rfl)]
                  go_simp
                  have hN := heap_alloc_new wE (.cells #[.string pa, .string pb, .int .i64 (ptO l pa).x, .int .i64 (ptO l pa).y, .int .i64 (ptO l pb).x, .int .i64 (ptO l pb).y, .slice none 0 0] 75)
                  have hMn := bto hM ((Below.refl wE.heap.size wE).alloc (Nat.le_refl _) (.cells #[.string pa, .string pb, .int .i64 (ptO l pa).x, .int .i64 (ptO l pa).y, .int .i64 (ptO l pb).x, .int .i64 (ptO l pb).y, .slice none 0 0] 75))
                  have hq := own_below hR ((Below.refl wE.heap.size wE).alloc (Nat.le_refl _) (.cells #[.string pa, .string pb, .int .i64 (ptO l pa).x, .int .i64 (ptO l pa).y, .int .i64 (ptO l pb).x, .int .i64 (ptO l pb).y, .slice none 0 0] 75))
                  have hne : wE.heap.size ≠ e0 := Nat.ne_of_gt (own_base hR (b := e0) rfl).2
                  clear hR
                  have hR := hq
                  clear hq
                  obtain ⟨q0, hq0⟩ : ∃ q0, wE.heap.size = q0 := ⟨_, rfl⟩
                  rw [hq0] at hN hne ⊢
                  clear hq0 hM
                  generalize wE.alloc _ = wN at *
                  have hM := hMn
                  clear hMn
                  refine hK _ _ ?_
                  refine wpAnyM_ready (rs := [4]) (by kernel_rfl) (by simp) (hM) ?_
                  refine AllReadyM.cons rfl (fun K' hK => ?_) (AllReadyM.nil)
                  rw [if_pos (by kernel_rfl)]
                  refine wp_append_some (.tmp 95) (.tmp 98) 33 rfl wc.heap.size 75 i0 (.agg #[.string ⟨#[]⟩, .string ⟨#[]⟩, .int .i64 0, .int .i64 0, .int .i64 0, .int .i64 0, .slice none 0 0]) 7 88 Tryz.underlying33 HI0.out HI1.out HI2.out HI3.out rfl (by decide) e0 0 0 [] rfl hR ⟨g, 0, none⟩ k cap ((L.take k).flatMap (encD (ptO l))) rfl (by rw [flatD_len, List.length_take, Nat.min_eq_left hk]) (HPRE.out _ hM) (HONE.out k).1 (by unfold maxLen; omega) (by omega) hM.size ?_
                  intro g1 c1 wG hr1 hg1
                  rw [List.nil_append] at hr1
                  have hq := (hg1.block q0 (lt_of_block hN) (fun e => hne (Option.some.inj e))).trans hN
                  clear hN
                  have hN := hq
                  clear hq
                  have hM2 := below_row hM hg1 (fun r e => by rw [← Option.some.inj e]; exact hR0)
                  clear hM hg1 hR
                  have hM := hM2
                  have hR := hr1
                  clear hM2 hr1
                  obtain ⟨n1, hn1⟩ : ∃ n1, 0 + k = n1 := ⟨_, rfl⟩
                  rw [hn1] at hR ⊢
                  have HN1 := hide hn1
                  clear hn1
                  refine hK _ _ ?_
                  refine wpAnyM_ready (rs := [7]) (by kernel_rfl) (by simp) (hM) ?_
                  refine AllReadyM.cons rfl (fun K' hK => ?_) (AllReadyM.nil)
                  rw [if_pos (by kernel_rfl)]
                  refine wp_append_some (.tmp 99) (.tmp 101) 33 rfl wc.heap.size 75 i0 (.agg #[.string ⟨#[]⟩, .string ⟨#[]⟩, .int .i64 0, .int .i64 0, .int .i64 0, .int .i64 0, .slice none 0 0]) 7 88 Tryz.underlying33 HI0.out HI1.out HI2.out HI3.out rfl (by decide) g1 n1 c1 ((L.take k).flatMap (encD (ptO l))) rfl hR ⟨q0, 0, none⟩ 1 1 [(.string pa : Value), .string pb, .int .i64 (ptO l pa).x, .int .i64 (ptO l pa).y, .int .i64 (ptO l pb).x, .int .i64 (ptO l pb).y, .slice none 0 0] rfl rfl (fun j u hj => World.news_of_block hN j u hj) (fun u hu => by simp at hu; rcases hu with rfl | rfl | rfl | rfl | rfl | rfl | rfl <;> rfl) (by have := HN1.out; unfold maxLen; omega) (by have := HN1.out; omega) hM.size ?_
                  intro g2 c2 wP hr2 hg2
                  have hM2 := below_row hM hg2 (fun r e => by rw [← Option.some.inj e]; exact (own_base hR (b := g1) rfl).1)
                  clear hM hg2 hR
                  have hM := hM2
                  have hR := hr2
                  clear hM2 hr2
                  obtain ⟨n2, hn2⟩ : ∃ n2, n1 + 1 = n2 := ⟨_, rfl⟩
                  rw [hn2] at hR ⊢
                  have HN2 := hide hn2
                  clear hn2 hN
                  refine hK _ _ ?_
                  refine wpAnyM_ready (rs := [11]) (by kernel_rfl) (by simp) (hM) ?_
                  refine AllReadyM.cons rfl (fun K' hK => ?_) (AllReadyM.nil)
                  rw [if_pos (by kernel_rfl)]
                  refine wp_append_some (.tmp 102) (.tmp 105) 33 rfl wc.heap.size 75 i0 (.agg #[.string ⟨#[]⟩, .string ⟨#[]⟩, .int .i64 0, .int .i64 0, .int .i64 0, .int .i64 0, .slice none 0 0]) 7 88 Tryz.underlying33 HI0.out HI1.out HI2.out HI3.out rfl (by decide) g2 n2 c2 ((L.take k).flatMap (encD (ptO l)) ++ [(.string pa : Value), .string pb, .int .i64 (ptO l pa).x, .int .i64 (ptO l pa).y, .int .i64 (ptO l pb).x, .int .i64 (ptO l pb).y, .slice none 0 0]) rfl hR ⟨g, k * 7, none⟩ (L.length - k) (cap - k) ((L.drop k).flatMap (encD (ptO l))) rfl (by rw [flatD_len, List.length_drop]) (HSUF.out _ hM) (HONE.out k).2 (by have := HN1.out; have := HN2.out; unfold maxLen; omega) (by have := HN1.out; have := HN2.out; omega) hM.size ?_
                  intro g3 c3 wT hr3 hg3
                  have hM2 := below_row hM hg3 (fun r e => by rw [← Option.some.inj e]; exact (own_base hR (b := g2) rfl).1)
                  clear hM hg3 hR
                  have hM := hM2
                  clear hM2
                  obtain ⟨n3, hn3⟩ : ∃ n3, n2 + (L.length - k) = n3 := ⟨_, rfl⟩
                  rw [hn3] at hr3 ⊢
                  have HN3 := hide hn3
                  clear hn3
                  refine hK _ _ ?_
                  refine wpAnyM_ready (rs := [12]) (by kernel_rfl) (by simp) (hM) ?_
                  refine AllReadyM.cons rfl (fun K' hK => ?_) (AllReadyM.nil)
                  rw [if_pos (by kernel_rfl)]
                  go_simp
                  refine hK _ _ ?_
                  refine wpAnyM_done (by kernel_rfl) (by kernel_rfl) ?_ _
                  have hn : n3 = (L.take k ++ ((pa, pb), (.slice none 0 0 : Value)) :: L.drop k).length := by have := HN1.out; have := HN2.out; have := HN3.out; simp; omega
                  rw [hn] at hr3 ⊢
                  have HEND := hide (ins_end HB6.out hk hM HW6.out.size hr3)
                  have HLT := hide (bto HW6.out hM)
                  have HGT := hide (show Below w.heap.size w wT ∧ (g3 = g ∨ w.heap.size ≤ g3) from ⟨bto HWW6.out hM, .inr (Nat.le_trans HWW6.out.size (own_base hr3 (b := g3) rfl).1)⟩)
                  clear hr3 hM
                  go_wp2_with fail
                  go_meet
                  exact ⟨g3, c3, _, .slice none 0 0, rfl, HEND, HKI, HINS, HLEN, HLT, HGT⟩
              · rw [if_pos (by kernel_rfl)]
                go_simp
                have hN := heap_alloc_new wd (.cells #[.string pa, .string pb, .int .i64 (ptO l pa).x, .int .i64 (ptO l pa).y, .int .i64 (ptO l pb).x, .int .i64 (ptO l pb).y, .slice none 0 0] 75)
                have hMn := bto hM ((Below.refl wd.heap.size wd).alloc (Nat.le_refl _) (.cells #[.string pa, .string pb, .int .i64 (ptO l pa).x, .int .i64 (ptO l pa).y, .int .i64 (ptO l pb).x, .int .i64 (ptO l pb).y, .slice none 0 0] 75))
                obtain ⟨q0, hq0⟩ : ∃ q0, wd.heap.size = q0 := ⟨_, rfl⟩
                rw [hq0] at hN ⊢
                clear hq0 hM
                generalize wd.alloc _ = wN at *
                have hM := hMn
                clear hMn
                refine hK _ _ ?_
                refine wpAnyM_ready (rs := [0]) (by kernel_rfl) (by simp) (hM) ?_
                refine AllReadyM.cons rfl (fun K' hK => ?_) (AllReadyM.nil)
                rw [if_pos (by kernel_rfl)]
                go_simp
                have hR := own_made wN 75 7
                have hMn := bto hM ((Below.refl wN.heap.size wN).alloc (Nat.le_refl _) (.cells #[] 75))
                have hR0 : wc.heap.size ≤ wN.heap.size := hM.size
                have hq := blkB ((Below.refl wN.heap.size wN).alloc (Nat.le_refl _) (.cells #[] 75)) hN
                have hne : q0 ≠ wN.heap.size := Nat.ne_of_lt (lt_of_block hN)
                clear hN
                have hN := hq
                clear hq
                obtain ⟨e0, he0⟩ : ∃ e0, wN.heap.size = e0 := ⟨_, rfl⟩
                rw [he0] at hR hR0 hne ⊢
                clear he0 hM
                generalize wN.alloc (.cells #[] 75) = wE at *
                have hM := hMn
                clear hMn
                replace hR := own_lower hR hR0
                refine hK _ _ ?_
                refine wpAnyM_ready (rs := [4]) (by kernel_rfl) (by simp) (hM) ?_
                refine AllReadyM.cons rfl (fun K' hK => ?_) (AllReadyM.nil)
                rw [if_pos (by kernel_rfl)]
                refine wp_append_some (.tmp 95) (.tmp 98) 33 rfl wc.heap.size 75 i0 (.agg #[.string ⟨#[]⟩, .string ⟨#[]⟩, .int .i64 0, .int .i64 0, .int .i64 0, .int .i64 0, .slice none 0 0]) 7 88 Tryz.underlying33 HI0.out HI1.out HI2.out HI3.out rfl (by decide) e0 0 0 [] rfl hR ⟨g, 0, none⟩ k cap ((L.take k).flatMap (encD (ptO l))) rfl (by rw [flatD_len, List.length_take, Nat.min_eq_left hk]) (HPRE.out _ hM) (HONE.out k).1 (by unfold maxLen; omega) (by omega) hM.size ?_
                intro g1 c1 wG hr1 hg1
                rw [List.nil_append] at hr1
                have hq := (hg1.block q0 (lt_of_block hN) (fun e => hne (Option.some.inj e))).trans hN
                clear hN
                have hN := hq
                clear hq
                have hM2 := below_row hM hg1 (fun r e => by rw [← Option.some.inj e]; exact hR0)
                clear hM hg1 hR
                have hM := hM2
                have hR := hr1
                clear hM2 hr1
                obtain ⟨n1, hn1⟩ : ∃ n1, 0 + k = n1 := ⟨_, rfl⟩
                rw [hn1] at hR ⊢
                have HN1 := hide hn1
                clear hn1
                refine hK _ _ ?_
                refine wpAnyM_ready (rs := [7]) (by kernel_rfl) (by simp) (hM) ?_
                refine AllReadyM.cons rfl (fun K' hK => ?_) (AllReadyM.nil)
                rw [if_pos (by kernel_rfl)]
                refine wp_append_some (.tmp 99) (.tmp 101) 33 rfl wc.heap.size 75 i0 (.agg #[.string ⟨#[]⟩, .string ⟨#[]⟩, .int .i64 0, .int .i64 0, .int .i64 0, .int .i64 0, .slice none 0 0]) 7 88 Tryz.underlying33 HI0.out HI1.out HI2.out HI3.out rfl (by decide) g1 n1 c1 ((L.take k).flatMap (encD (ptO l))) rfl hR ⟨q0, 0, none⟩ 1 1 [(.string pa : Value), .string pb, .int .i64 (ptO l pa).x, .int .i64 (ptO l pa).y, .int .i64 (ptO l pb).x, .int .i64 (ptO l pb).y, .slice none 0 0] rfl rfl (fun j u hj => World.news_of_block hN j u hj) (fun u hu => by simp at hu; rcases hu with rfl | rfl | rfl | rfl | rfl | rfl | rfl <;> rfl) (by have := HN1.out; unfold maxLen; omega) (by have := HN1.out; omega) hM.size ?_
                intro g2 c2 wP hr2 hg2
                have hM2 := below_row hM hg2 (fun r e => by rw [← Option.some.inj e]; exact (own_base hR (b := g1) rfl).1)
                clear hM hg2 hR
                have hM := hM2
                have hR := hr2
                clear hM2 hr2
                obtain ⟨n2, hn2⟩ : ∃ n2, n1 + 1 = n2 := ⟨_, rfl⟩
                rw [hn2] at hR ⊢
                have HN2 := hide hn2
                clear hn2 hN
                refine hK _ _ ?_
                refine wpAnyM_ready (rs := [11]) (by kernel_rfl) (by simp) (hM) ?_
                refine AllReadyM.cons rfl (fun K' hK => ?_) (AllReadyM.nil)
                rw [if_pos (by kernel_rfl)]
                refine wp_append_some (.tmp 102) (.tmp 105) 33 rfl wc.heap.size 75 i0 (.agg #[.string ⟨#[]⟩, .string ⟨#[]⟩, .int .i64 0, .int .i64 0, .int .i64 0, .int .i64 0, .slice none 0 0]) 7 88 Tryz.underlying33 HI0.out HI1.out HI2.out HI3.out rfl (by decide) g2 n2 c2 ((L.take k).flatMap (encD (ptO l)) ++ [(.string pa : Value), .string pb, .int .i64 (ptO l pa).x, .int .i64 (ptO l pa).y, .int .i64 (ptO l pb).x, .int .i64 (ptO l pb).y, .slice none 0 0]) rfl hR ⟨g, k * 7, none⟩ (L.length - k) (cap - k) ((L.drop k).flatMap (encD (ptO l))) rfl (by rw [flatD_len, List.length_drop]) (HSUF.out _ hM) (HONE.out k).2 (by have := HN1.out; have := HN2.out; unfold maxLen; omega) (by have := HN1.out; have := HN2.out; omega) hM.size ?_
                intro g3 c3 wT hr3 hg3
                have hM2 := below_row hM hg3 (fun r e => by rw [← Option.some.inj e]; exact (own_base hR (b := g2) rfl).1)
                clear hM hg3 hR
                have hM := hM2
                clear hM2
                obtain ⟨n3, hn3⟩ : ∃ n3, n2 + (L.length - k) = n3 := ⟨_, rfl⟩
                rw [hn3] at hr3 ⊢
                have HN3 := hide hn3
                clear hn3
                refine hK _ _ ?_
                refine wpAnyM_ready (rs := [12]) (by kernel_rfl) (by simp) (hM) ?_
                refine AllReadyM.cons rfl (fun K' hK => ?_) (AllReadyM.nil)
                rw [if_pos (by kernel_rfl)]
                go_simp
                refine hK _ _ ?_
                refine wpAnyM_done (by kernel_rfl) (by kernel_rfl) ?_ _
                have hn : n3 = (L.take k ++ ((pa, pb), (.slice none 0 0 : Value)) :: L.drop k).length := by have := HN1.out; have := HN2.out; have := HN3.out; simp; omega
                rw [hn] at hr3 ⊢
                have HEND := hide (ins_end HB6.out hk hM HW6.out.size hr3)
                have HLT := hide (bto HW6.out hM)
                have HGT := hide (show Below w.heap.size w wT ∧ (g3 = g ∨ w.heap.size ≤ g3) from ⟨bto HWW6.out hM, .inr (Nat.le_trans HWW6.out.size (own_base hr3 (b := g3) rfl).1)⟩)
                clear hr3 hM
                go_wp2_with fail
                go_meet
                exact ⟨g3, c3, _, .slice none 0 0, rfl, HEND, HKI, HINS, HLEN, HLT, HGT⟩
      case rest =>
        obtain ⟨g', cap', L', ov, rfl, hbd, hxk, hin, hl', hw', hww⟩ := hcut
        have HGW := hide hww.out
        clear hww
        have HBD := hide hbd.out
        have HXK := hide hxk.out
        have HIN := hide hin.out
        have HL' := hide hl'.out
        have HW' := hide hw'.out
        have hlt : k < L'.length := (List.getElem?_eq_some_iff.1 hxk.out).1
        obtain ⟨G, hG, hrow⟩ := hbd.out.own _ (List.mem_of_getElem? hxk.out)
        obtain ⟨_, _, _, _, _, _, e6⟩ := hbd.out.cells hxk.out
        have k0 : (0 : Int) ≤ (k : Nat) := by omega
        have k1 : ((k : Nat) : Int) < (L'.length : Nat) := by omega
        have HG := hide hG
        have HROW := hide hrow
        have hDD := HD.out
        simp only at e6 hrow
        clear hbd hxk hin hl' hw' HX1C HX2C HW HBW HBB HLO HNO s0 s1
        obtain ⟨j0, hj, hy0, hy1, hy2⟩ := info_parts3 info_string
        have HJ0 := hide hj
        have HY0 := hide hy0
        have HY1 := hide hy1
        have HY2 := hide hy2
        clear hj hy0 hy1 hy2
        rcases hrow.2 with ⟨hov, hG0⟩ | ⟨go, co, cur, hov, _⟩
        · subst hov
          go_upto_region 9 with (fail)
          have e7 := (((Below.refl wc.heap.size wc).alloc (Nat.le_refl _) (.cells #[] 9)).cell (p := ⟨g', k * 7 + 6, none⟩) (own_base HBD.out.row rfl).2).trans e6
          go_wp2_with (first | (at_builtin; refine wpList_append_nil rfl (.tmp 130) (.tmp 135) 39 rfl 9 j0 Tryz.underlying39 HJ0.out (some ⟨wc.heap.size, 0, none⟩) 0 0 (Nat.le_refl _) rfl rfl ?_) | (at_builtin; go_must (refine wpList_append_some rfl (.tmp 136) (.tmp 138) 39 rfl wc.heap.size 9 j0 (.string ⟨#[]⟩) 1 16 Tryz.underlying39 HJ0.out HY0.out HY1.out HY2.out rfl (by decide) wc.heap.size 0 0 [] rfl (own_below (own_made wc 9 1) ((Below.refl _ _).alloc (Nat.le_refl _) _)) ⟨wc.heap.size + 1, 0, none⟩ 1 1 [.string id] rfl rfl (fun j u hj => World.news_of_block (two_alloc wc _ _) j u hj) (fun u hu => by simp at hu; rw [hu]; rfl) (by unfold maxLen; omega) (by omega) (bto ((Below.refl wc.heap.size wc).alloc (Nat.le_refl _) (.cells #[] 9)) ((Below.refl _ _).alloc (Nat.le_refl _) (.cells #[.string id] 9))).size ?_)))
          intro g2 c2 wP hr2 hg2
          have hBP := below_row (bto ((Below.refl wc.heap.size wc).alloc (Nat.le_refl _) (.cells #[] 9)) ((Below.refl _ _).alloc (Nat.le_refl _) (.cells #[.string id] 9))) hg2 (fun r e => by rw [← Option.some.inj e]; exact Nat.le_refl _)
          obtain rfl : G = [] := List.eq_nil_of_length_eq_zero hG0
          clear hg2
          have hbd := HBD.out.below hBP
          obtain ⟨_, _, _, _, _, _, e6⟩ := hbd.cells HXK.out
          have f6 := own_frz hbd.row (k * 7 + 6)
          have HF := hide (hbd.set (ov := .slice (some ⟨g2, 0, none⟩) 1 c2) (G := [] ++ [id]) HXK.out (by simp) (by
            have hl : ([] ++ [id]).length = 1 := by rfl
            rw [hl, List.map_append]
            exact own_lower hr2 HW'.out.size))
          have HBF := hide ((bto HW'.out hBP).setCell (p := ⟨g', k * 7 + 6, none⟩) (own_base hbd.row rfl).1 (.slice (some ⟨g2, 0, none⟩) 1 c2))
          have HMF : Hid ((L'.set k ((pa, pb), .slice (some ⟨g2, 0, none⟩) 1 c2)).map Prod.fst = insP (pa, pb) (L.map Prod.fst)) := hide (by rw [← HIN.out]; exact map_set_fst HXK.out _)
          have HLS : Hid ((L'.set k ((pa, pb), .slice (some ⟨g2, 0, none⟩) 1 c2)).length = L'.length) := hide (List.length_set ..)
          have HBP := hide hBP
          clear hbd hr2 hBP
          go_wp2_with fail
          go_ret
          exact ⟨_, rfl, _, HF.out, HMF.out, HBF.out, grow_set (bto HGW.out.1 HBP.out) HGW.out.2⟩
        · subst hov
          by_cases hG0 : G.length = 0
          · obtain rfl : G = [] := List.eq_nil_of_length_eq_zero hG0
            simp only [List.length_nil, List.map_nil] at e6 hrow HROW
            go_upto_region 9 with (fail)
            have e7 := (((Below.refl wc.heap.size wc).alloc (Nat.le_refl _) (.cells #[] 9)).cell (p := ⟨g', k * 7 + 6, none⟩) (own_base HBD.out.row rfl).2).trans e6
            go_wp2_with (at_builtin; go_must (refine wpList_append_some rfl (.tmp 130) (.tmp 135) 39 rfl wc.heap.size 9 j0 (.string ⟨#[]⟩) 1 16 Tryz.underlying39 HJ0.out HY0.out HY1.out HY2.out rfl (by decide) wc.heap.size 0 0 [] rfl (own_made wc 9 1) ⟨go, 0, none⟩ 0 co [] rfl rfl (fun j u hj => by cases hj) (fun u hu => by cases hu) (by unfold maxLen; omega) (by omega) ((Below.refl wc.heap.size wc).alloc (Nat.le_refl _) (.cells #[] 9)).size ?_))
            intro g1 c1 wG hr1 hg1
            have hB1 := below_row ((Below.refl wc.heap.size wc).alloc (Nat.le_refl _) (.cells #[] 9)) hg1 (fun r e => by rw [← Option.some.inj e]; exact Nat.le_refl _)
            have HR1 := hide (own_below hr1 ((Below.refl _ _).alloc (Nat.le_refl _) (.cells #[.string id] 9)))
            have HB1 := hide (bto hB1 ((Below.refl _ _).alloc (Nat.le_refl _) (.cells #[.string id] 9)))
            have HN1 := hide (heap_alloc_new wG (.cells #[.string id] 9))
            clear hr1 hg1 hB1
            go_wp2_with (at_builtin; go_must (refine wpList_append_some rfl (.tmp 136) (.tmp 138) 39 rfl wc.heap.size 9 j0 (.string ⟨#[]⟩) 1 16 Tryz.underlying39 HJ0.out HY0.out HY1.out HY2.out rfl (by decide) g1 0 c1 [] rfl HR1.out ⟨wG.heap.size, 0, none⟩ 1 1 [.string id] rfl rfl (fun j u hj => World.news_of_block HN1.out j u hj) (fun u hu => by simp at hu; rw [hu]; rfl) (by unfold maxLen; omega) (by omega) HB1.out.size ?_))
            intro g2 c2 wP hr2 hg2
            have hBP := below_row HB1.out hg2 (fun r e => by rw [← Option.some.inj e]; exact (own_base HR1.out rfl).1)
            clear hg2 HR1 HB1 HN1
            have hbd := HBD.out.below hBP
            obtain ⟨_, _, _, _, _, _, e6⟩ := hbd.cells HXK.out
            have f6 := own_frz hbd.row (k * 7 + 6)
            have HF := hide (hbd.set (ov := .slice (some ⟨g2, 0, none⟩) 1 c2) (G := [] ++ [id]) HXK.out (by simp) (by
              have hl : ([] ++ [id]).length = 1 := by rfl
              rw [hl, List.map_append]
              exact own_lower hr2 HW'.out.size))
            have HBF := hide ((bto HW'.out hBP).setCell (p := ⟨g', k * 7 + 6, none⟩) (own_base hbd.row rfl).1 (.slice (some ⟨g2, 0, none⟩) 1 c2))
            have HMF : Hid ((L'.set k ((pa, pb), .slice (some ⟨g2, 0, none⟩) 1 c2)).map Prod.fst = insP (pa, pb) (L.map Prod.fst)) := hide (by rw [← HIN.out]; exact map_set_fst HXK.out _)
            have HLS : Hid ((L'.set k ((pa, pb), .slice (some ⟨g2, 0, none⟩) 1 c2)).length = L'.length) := hide (List.length_set ..)
            have HBP := hide hBP
            clear hbd hr2 hBP
            go_wp2_with fail
            go_ret
            exact ⟨_, rfl, _, HF.out, HMF.out, HBF.out, grow_set (bto HGW.out.1 HBP.out) HGW.out.2⟩
          · have hGn : 1 ≤ G.length := by omega
            obtain ⟨y, hy⟩ : ∃ y, G[G.length - 1]? = some y := ⟨_, List.getElem?_eq_getElem (by omega)⟩
            have ey : wc.cell? ⟨go, G.length - 1, none⟩ = some (.string y) := own_cell hrow _ _ (by rw [List.getElem?_map, hy]; rfl)
            have n0 : ¬ ((G.length : Nat) : Int) = 0 := by omega
            have n1 : (((G.length : Nat) : Int) == 0) = false := beq_eq_false_iff_ne.2 n0
            have n2 : (0 : Int) ≤ ((G.length : Nat) : Int) - 1 := by omega
            have n3 : ((G.length : Nat) : Int) - 1 < (G.length : Nat) := by omega
            by_cases hid : y = id
            · obtain ⟨x1, x2⟩ := eqS hid
              clear hy hrow hid
              go_wp2_with fail
              go_ret
              exact ⟨_, rfl, _, HBD.out.more, HIN.out, HW'.out, grow_none HGW.out.1⟩
            · obtain ⟨x1, x2⟩ := neS hid
              clear hy hid
              go_upto_region 9 with (fail)
              have e7 := (((Below.refl wc.heap.size wc).alloc (Nat.le_refl _) (.cells #[] 9)).cell (p := ⟨g', k * 7 + 6, none⟩) (own_base HBD.out.row rfl).2).trans e6
              go_wp2_with (at_builtin; go_must (refine wpList_append_some rfl (.tmp 130) (.tmp 135) 39 rfl wc.heap.size 9 j0 (.string ⟨#[]⟩) 1 16 Tryz.underlying39 HJ0.out HY0.out HY1.out HY2.out rfl (by decide) wc.heap.size 0 0 [] rfl (own_made wc 9 1) ⟨go, 0, none⟩ G.length co (G.map .string) rfl ((List.length_map ..).trans (Nat.mul_one _).symm) (fun j u hj => World.ownsRow.cells (own_below HROW.out ((Below.refl wc.heap.size wc).alloc (Nat.le_refl _) (.cells #[] 9))) rfl j u hj) (fun u hu => by obtain ⟨x, _, rfl⟩ := List.mem_map.1 hu; rfl) (by unfold maxLen; omega) (by omega) ((Below.refl wc.heap.size wc).alloc (Nat.le_refl _) (.cells #[] 9)).size ?_))
              intro g1 c1 wG hr1 hg1
              have hB1 := below_row ((Below.refl wc.heap.size wc).alloc (Nat.le_refl _) (.cells #[] 9)) hg1 (fun r e => by rw [← Option.some.inj e]; exact Nat.le_refl _)
              have HR1 := hide (own_below hr1 ((Below.refl _ _).alloc (Nat.le_refl _) (.cells #[.string id] 9)))
              have HB1 := hide (bto hB1 ((Below.refl _ _).alloc (Nat.le_refl _) (.cells #[.string id] 9)))
              have HN1 := hide (heap_alloc_new wG (.cells #[.string id] 9))
              clear hr1 hg1 hB1
              go_wp2_with (at_builtin; go_must (refine wpList_append_some rfl (.tmp 136) (.tmp 138) 39 rfl wc.heap.size 9 j0 (.string ⟨#[]⟩) 1 16 Tryz.underlying39 HJ0.out HY0.out HY1.out HY2.out rfl (by decide) g1 G.length c1 (G.map .string) rfl HR1.out ⟨wG.heap.size, 0, none⟩ 1 1 [.string id] rfl rfl (fun j u hj => World.news_of_block HN1.out j u hj) (fun u hu => by simp at hu; rw [hu]; rfl) (by unfold maxLen; omega) (by omega) HB1.out.size ?_))
              intro g2 c2 wP hr2 hg2
              have hBP := below_row HB1.out hg2 (fun r e => by rw [← Option.some.inj e]; exact (own_base HR1.out rfl).1)
              clear hg2 HR1 HB1 HN1
              have hbd := HBD.out.below hBP
              obtain ⟨_, _, _, _, _, _, e6⟩ := hbd.cells HXK.out
              have f6 := own_frz hbd.row (k * 7 + 6)
              have HF := hide (hbd.set (ov := .slice (some ⟨g2, 0, none⟩) (G.length + 1) c2) (G := G ++ [id]) HXK.out (by simp; have := HG.out; omega) (by
                have hl : (G ++ [id]).length = (G.length + 1) := by simp
                rw [hl, List.map_append]
                exact own_lower hr2 HW'.out.size))
              have HBF := hide ((bto HW'.out hBP).setCell (p := ⟨g', k * 7 + 6, none⟩) (own_base hbd.row rfl).1 (.slice (some ⟨g2, 0, none⟩) (G.length + 1) c2))
              have HMF : Hid ((L'.set k ((pa, pb), .slice (some ⟨g2, 0, none⟩) (G.length + 1) c2)).map Prod.fst = insP (pa, pb) (L.map Prod.fst)) := hide (by rw [← HIN.out]; exact map_set_fst HXK.out _)
              have HLS : Hid ((L'.set k ((pa, pb), .slice (some ⟨g2, 0, none⟩) (G.length + 1) c2)).length = L'.length) := hide (List.length_set ..)
              have HBP := hide hBP
              clear hbd hr2 hBP
              go_wp2_with fail
              go_ret
              exact ⟨_, rfl, _, HF.out, HMF.out, HBF.out, grow_set (bto HGW.out.1 HBP.out) HGW.out.2⟩
end Go.Proofs.YtfkgjbdeicggaaaGreat
