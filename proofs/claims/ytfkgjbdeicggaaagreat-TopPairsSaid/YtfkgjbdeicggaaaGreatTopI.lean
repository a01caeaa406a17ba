/-
  The memory of the borders: owners in rows of their own, the map of them, the list of borders.
-/
import Derived.Test.YtfkgjbdeicggaaaGreatTopH
import Derived.Test.YtfkgjbdeicggaaaGreatPlainAll
namespace Go.Proofs.YtfkgjbdeicggaaaGreat
open Go.RowKit Go.Proofs.PlLex Go.Proofs.PlNet Go.Proofs.PlMap Go.Proofs.PlGeom Go.Proofs.PlTop
attribute [local go_sem] Oper.semAt_some run_makeMap

theorem own_kept {w w' : World} {B : Nat} {e : TypeId} {sz : Nat} {v : Value} {n : Nat} {xs : List Value} {row : Option Nat} (h : w.ownsRow B e sz v n xs) (hb : w.grownBy w' row) (hr : ∀ b, v.ownBlock = some b → row ≠ some b) : w'.ownsRow B e sz v n xs := by
  obtain ⟨h1, h2⟩ := h
  refine ⟨h1, ?_⟩
  rcases h2 with h2 | ⟨g, cap, cur, rfl, hg, hh, r⟩
  · exact .inl h2
  · exact .inr ⟨g, cap, cur, rfl, hg, (hb.block g (lt_of_block hh) (fun e => hr g rfl e.symm)).trans hh, r⟩
theorem own_below {w w' : World} {B : Nat} {e : TypeId} {sz : Nat} {v : Value} {n : Nat} {xs : List Value} (h : w.ownsRow B e sz v n xs) (hb : Below w.heap.size w w') : w'.ownsRow B e sz v n xs := by
  obtain ⟨h1, h2⟩ := h
  refine ⟨h1, ?_⟩
  rcases h2 with h2 | ⟨g, cap, cur, hv, hg, hh, r⟩
  · exact .inl h2
  · exact .inr ⟨g, cap, cur, hv, hg, (hb.block g (lt_of_block hh)).trans hh, r⟩
/-- Lists of strings in memory. -/
def GrO (W : World) (g o : Nat) (L : List (List ByteArray)) : Prop := ∀ (i : Nat) r, L[i]? = some r → ∃ iv, W.cell? ⟨g, o + i, none⟩ = some iv ∧ StS W iv r
def GrS (W : World) (v : Value) (L : List (List ByteArray)) : Prop := ∃ A c, v = .slice A L.length c ∧ L.length ≤ c ∧ (L = [] ∨ ∃ g o, A = some ⟨g, o, none⟩ ∧ g < W.heap.size ∧ GrO W g o L)
theorem GrO.below {W W' : World} {g o : Nat} {L : List (List ByteArray)} (h : GrO W g o L) (hg : g < W.heap.size) (hb : Below W.heap.size W W') : GrO W' g o L := fun i r hi => by
  obtain ⟨iv, h1, h2⟩ := h i r hi
  exact ⟨iv, (hb.cell (p := ⟨g, _, none⟩) hg).trans h1, h2.below hb⟩
theorem GrS.below {W W' : World} {v : Value} {L : List (List ByteArray)} (h : GrS W v L) (hb : Below W.heap.size W W') : GrS W' v L := by
  obtain ⟨A, c, hv, hc, h⟩ := h
  refine ⟨A, c, hv, hc, ?_⟩
  rcases h with h | ⟨g, o, hA, hg, hp⟩
  · exact .inl h
  · exact .inr ⟨g, o, hA, Nat.lt_of_lt_of_le hg hb.size, hp.below hg hb⟩
theorem below_row {a b c : World} {row : Option Nat} (h : Below a.heap.size a b) (hg : b.grownBy c row) (hk : ∀ r, row = some r → a.heap.size ≤ r) : Below a.heap.size a c :=
  ⟨hg.os.trans h.os, hg.tape.trans h.tape, hg.output.trans h.output, Nat.le_trans h.size hg.size, fun i hi => (hg.block i (Nat.lt_of_lt_of_le hi h.size) (fun e => by have := hk i e.symm; omega)).trans (h.block i hi)⟩
theorem row_ne_row {W : World} {B B' sz sz' n n' : Nat} {t t' : TypeId} {v v' : Value} {xs xs' : List Value} (h : W.ownsRow B t sz v n xs) (h' : W.ownsRow B' t' sz' v' n' xs') (ht : t ≠ t') : ∀ b, v.ownBlock = some b → v'.ownBlock ≠ some b := by
  intro b h1 h2
  obtain ⟨_, c, hc⟩ := own_block h h1
  obtain ⟨_, c', hc'⟩ := own_block h' h2
  rw [hc] at hc'
  cases hc'
  exact ht rfl
theorem row_ne_blk {W : World} {B sz n b : Nat} {t t' : TypeId} {v : Value} {xs : List Value} {cs : Array Value} {f : Nat × Nat} (h : W.ownsRow B t sz v n xs) (hb : W.heap[b]? = some (.cells cs t' f)) (ht : t' ≠ t) : some b ≠ v.ownBlock := by
  intro e
  obtain ⟨_, c, hc⟩ := own_block h e.symm
  rw [hc] at hb
  cases hb
  exact ht rfl
/-- Lists of strings, each in a row of its own. -/
structure SrI (B : Nat) (rows : List (Value × List BA)) (W : World) : Prop where
  row : ∀ x ∈ rows, W.ownsRow B 9 1 x.1 x.2.length (x.2.map .string)
  ne : rows.Pairwise (fun x y => ∀ b, x.1.ownBlock = some b → y.1.ownBlock ≠ some b)
theorem SrI.grow {B : Nat} {W W' : World} {pre post : List (Value × List BA)} {x x' : Value × List BA} {row : Option Nat} (h : SrI B (pre ++ x :: post) W) (hg : W.grownBy W' row) (hrow : row = none ∨ row = x.1.ownBlock)
    (hr : W'.ownsRow B 9 1 x'.1 x'.2.length (x'.2.map .string)) (hat : ∀ b, x'.1.ownBlock = some b → x.1.ownBlock = some b ∨ W.heap.size ≤ b) : SrI B (pre ++ x' :: post) W' := by
  obtain ⟨n1, n2, n3⟩ := List.pairwise_append.1 h.ne
  obtain ⟨n4, n5⟩ := List.pairwise_cons.1 n2
  have far : ∀ y, y ∈ pre ++ post → (∀ b, y.1.ownBlock = some b → x.1.ownBlock ≠ some b) ∧ W.ownsRow B 9 1 y.1 y.2.length (y.2.map .string) := fun y hy => by
    rcases List.mem_append.1 hy with hy | hy
    · exact ⟨fun b hb => n3 y hy x (List.mem_cons_self ..) b hb, h.row y (List.mem_append_left _ hy)⟩
    · exact ⟨fun b hb hx => n4 y hy b hx hb, h.row y (List.mem_append_right _ (List.mem_cons_of_mem _ hy))⟩
  have kept : ∀ y, y ∈ pre ++ post → W'.ownsRow B 9 1 y.1 y.2.length (y.2.map .string) := fun y hy => by
    obtain ⟨f1, f2⟩ := far y hy
    refine own_kept f2 hg (fun b h1 h2 => ?_)
    rcases hrow with e | e
    · rw [e] at h2; cases h2
    · rw [e] at h2; exact f1 b h1 h2
  have apart : ∀ y, y ∈ pre ++ post → ∀ b, y.1.ownBlock = some b → x'.1.ownBlock ≠ some b := fun y hy b h1 h2 => by
    obtain ⟨f1, f2⟩ := far y hy
    rcases hat b h2 with h3 | h3
    · exact f1 b h1 h3
    · obtain ⟨_, cur, hc⟩ := own_block f2 h1
      have := lt_of_block hc
      omega
  refine ⟨fun y hy => ?_, ?_⟩
  · rcases List.mem_append.1 hy with hy | hy
    · exact kept y (List.mem_append_left _ hy)
    · rcases List.mem_cons.1 hy with rfl | hy
      · exact hr
      · exact kept y (List.mem_append_right _ hy)
  · refine List.pairwise_append.2 ⟨n1, List.pairwise_cons.2 ⟨fun y hy b h1 h2 => apart y (List.mem_append_right _ hy) b h2 h1, n5⟩, fun y hy z hz b h1 => ?_⟩
    rcases List.mem_cons.1 hz with rfl | hz
    · exact apart y (List.mem_append_left _ hy) b h1
    · exact n3 y hy z (List.mem_cons_of_mem _ hz) b h1
theorem SrI.kept {B : Nat} {W W' : World} {rows : List (Value × List BA)} {row : Option Nat} (h : SrI B rows W) (hg : W.grownBy W' row) (hn : ∀ x ∈ rows, ∀ b, x.1.ownBlock = some b → row ≠ some b) : SrI B rows W' :=
  ⟨fun x hx => own_kept (h.row x hx) hg (hn x hx), h.ne⟩
/-- A new row with one string. -/
theorem row_one (B : Nat) (W : World) (s : BA) (h : B ≤ W.heap.size) : (W.alloc (.cells #[.string s] 9)).ownsRow B 9 1 (.slice (some ⟨W.heap.size, 0, none⟩) 1 1) 1 [.string s] :=
  World.ownsRow_lit W #[.string s] 1 h (by unfold maxLen; omega) rfl
theorem info_strs : (Tryz.prog.info? 39).map (fun i => (i.zero, i.size, i.bytes)) = some (some (.slice none 0 0), 1, 24) := by kernel_rfl
theorem info_string : (Tryz.prog.info? 9).map (fun i => (i.zero, i.size, i.bytes)) = some (some (.string ⟨#[]⟩), 1, 16) := by kernel_rfl
theorem strs_of_row {W : World} {B n : Nat} {v : Value} {l : List BA} (h : W.ownsRow B 9 1 v n (l.map Value.string)) (hn : n = l.length) : StS W v l := by
  subst hn
  rcases h.2 with ⟨hv, h0⟩ | ⟨g, cap, cur, hv, hg, hh, hc, _⟩
  · subst hv
    obtain rfl := List.length_eq_zero_iff.1 h0
    exact ⟨none, 0, rfl, Nat.le_refl _, .inl rfl⟩
  · subst hv
    refine ⟨some ⟨g, 0, none⟩, cap, rfl, hc, .inr ⟨g, 0, rfl, lt_of_block hh, fun i s hi => ?_⟩⟩
    have := h.cells (g := g) rfl i (.string s) (by rw [List.getElem?_map, hi]; rfl)
    have e : (⟨g, 0, none⟩ : Addr).add i = ⟨g, 0 + i, none⟩ := by simp only [Addr.add, Nat.zero_add]; split <;> simp_all
    rw [← e]
    exact this
theorem map_blk {P : Program} {k : TypeId} {K : Type} [DecidableEq K] {B : KeyBy P k K} {W : World} {b : Nat} {l : List (K × Value)} (h : MapL B W b l) : ∃ es c, W.heap[b]? = some (.map es c) := by
  obtain ⟨D, ⟨es, clock, h0, _⟩, _⟩ := h.own
  exact ⟨es, clock, h0⟩
theorem range_blk {P : Program} {k : TypeId} {K : Type} [DecidableEq K] {B : KeyBy P k K} {W : World} {b r cnt : Nat} {l : List (K × Value)} {left : K → Bool} (h : RangeL B W b r l left cnt) : ∃ m s e c, W.heap[r]? = some (.mapIter m s e c) := by
  obtain ⟨D, lf, ⟨es, clock, since, seen, c0, _, _, _, _, h0, _⟩, _⟩ := h.own
  exact ⟨_, _, _, _, h0⟩
theorem own_ne_iter {W : World} {B sz n b : Nat} {t : TypeId} {v : Value} {xs : List Value} (h : W.ownsRow B t sz v n xs) (hb : ∃ m s e c, W.heap[b]? = some (.mapIter m s e c)) : v.ownBlock ≠ some b := by
  intro e
  obtain ⟨m, s, e', c, hb⟩ := hb
  obtain ⟨_, cur, hc⟩ := own_block h e
  rw [hc] at hb
  cases hb
theorem own_ne_map {W : World} {B sz n b : Nat} {t : TypeId} {v : Value} {xs : List Value} (h : W.ownsRow B t sz v n xs) (hb : ∃ es c, W.heap[b]? = some (.map es c)) : v.ownBlock ≠ some b := by
  intro e
  obtain ⟨es, c, hb⟩ := hb
  obtain ⟨_, cur, hc⟩ := own_block h e
  rw [hc] at hb
  cases hb
/-- Owners at keys: the map, and the rows. -/
structure LnI (w0 : World) (bo : Nat) (rows : List (Rw Pr)) (W : World) : Prop where
  map : MapPr W bo (keyed rows)
  sr : SrI w0.heap.size (rows.map Prod.snd) W
  below : Below w0.heap.size w0 W
  lo : w0.heap.size ≤ bo
theorem LnI.lift {w0 : World} {bo : Nat} {rows : List (Rw Pr)} {W W' : World} (h : LnI w0 bo rows W) (hb : Below W.heap.size W W') : LnI w0 bo rows W' :=
  ⟨h.map.kept (bgrow hb) (by simp), h.sr.kept (bgrow hb) (fun _ _ _ _ => by simp), bto h.below hb, h.lo⟩
/-- What lies at a key, and how more is put there. -/
theorem LnI.at {w0 : World} {bo : Nat} {rows : List (Rw Pr)} {W : World} {G : Pr → List BA} (h : LnI w0 bo rows W) (hr : RowsR rows G) (p : Pr) :
    ∃ pre post v0, (getL (keyed rows) p).getD (.slice none 0 0) = v0 ∧ StS W v0 (G p) ∧ SrI w0.heap.size (pre.map Prod.snd ++ (v0, G p) :: post.map Prod.snd) W ∧
      ∀ v' s, RowsR (pre ++ (p, v', G p ++ [s]) :: post) (fun q => if q = p then G p ++ [s] else G q) ∧ putL (keyed rows) p v' = keyed (pre ++ (p, v', G p ++ [s]) :: post) ∧ (pre ++ (p, v', G p ++ [s]) :: post).length ≤ rows.length + 1 := by
  rcases hr.look p with ⟨h1, h2⟩ | ⟨pre, x, post, rfl, hxp, hx2, hne, h3⟩
  · have hsr : SrI w0.heap.size (rows.map Prod.snd ++ ((.slice none 0 0 : Value), ([] : List BA)) :: ([] : List (Rw Pr)).map Prod.snd) W := by
      refine ⟨fun x hx => ?_, ?_⟩
      · rcases List.mem_append.1 hx with hx | hx
        · exact h.sr.row x hx
        · simp at hx
          rw [hx]
          exact World.ownsRow_nil _ _ _ _
      · refine List.pairwise_append.2 ⟨h.sr.ne, List.pairwise_singleton _ _, fun x _ y hy b _ => ?_⟩
        simp at hy
        rw [hy]
        simp [Value.ownBlock]
    refine ⟨rows, [], .slice none 0 0, by rw [h2]; rfl, by rw [h1]; exact ⟨none, 0, rfl, Nat.le_refl _, .inl rfl⟩, by rw [h1]; exact hsr, fun v' s => ?_⟩
    obtain ⟨r1, r2⟩ := hr.add h1 v' s
    rw [h1, List.nil_append]
    rw [h1, List.nil_append] at r1
    exact ⟨r1, r2, by simp⟩
  · have hsr := h.sr
    rw [List.map_append, List.map_cons] at hsr
    have hx : x.2 = (x.2.1, G p) := by rw [← hx2]
    rw [hx] at hsr
    refine ⟨pre, post, x.2.1, by rw [h3]; rfl, strs_of_row (hsr.row _ (List.mem_append_right _ (List.mem_cons_self ..))) rfl, hsr, fun v' s => ?_⟩
    obtain ⟨r1, r2⟩ := hr.set hxp v' s
    exact ⟨r1, r2, by simp⟩
/-- The cells of a border with its owners. -/
def encL (x : Rw Pr) : List Value := [.string x.1.1, .string x.1.2, x.2.1]
/-- A slice value that reads as borders with their owners. -/
def LnO (W : World) (g o : Nat) (L : List Ln) : Prop := ∀ (i : Nat) x, L[i]? = some x → ∃ ov, W.cell? ⟨g, o + i * 3, none⟩ = some (.string x.1.1) ∧ W.cell? ⟨g, o + i * 3 + 1, none⟩ = some (.string x.1.2) ∧ W.cell? ⟨g, o + i * 3 + 2, none⟩ = some ov ∧ StS W ov x.2
def LnS (W : World) (v : Value) (L : List Ln) : Prop := ∃ A c, v = .slice A L.length c ∧ (L = [] ∨ ∃ g o, A = some ⟨g, o, none⟩ ∧ g < W.heap.size ∧ LnO W g o L)
theorem LnO.below {W W' : World} {g o : Nat} {L : List Ln} (h : LnO W g o L) (hg : g < W.heap.size) (hb : Below W.heap.size W W') : LnO W' g o L := fun i x hi => by
  obtain ⟨ov, h1, h2, h3, h4⟩ := h i x hi
  exact ⟨ov, (hb.cell (p := ⟨g, _, none⟩) hg).trans h1, (hb.cell (p := ⟨g, _, none⟩) hg).trans h2, (hb.cell (p := ⟨g, _, none⟩) hg).trans h3, h4.below hb⟩
theorem LnS.below {W W' : World} {v : Value} {L : List Ln} (h : LnS W v L) (hb : Below W.heap.size W W') : LnS W' v L := by
  obtain ⟨A, c, hv, h⟩ := h
  refine ⟨A, c, hv, ?_⟩
  rcases h with h | ⟨g, o, hA, hg, hp⟩
  · exact .inl h
  · exact .inr ⟨g, o, hA, Nat.lt_of_lt_of_le hg hb.size, hp.below hg hb⟩
theorem encL_len (x : Rw Pr) : (encL x).length = 3 := rfl
/-- A row of borders of the call's own reads as borders, where their owners lie in rows of their own. -/
theorem lnS_of_own {W : World} {B B' : Nat} {v : Value} {C : List (Rw Pr)} (h : W.ownsRow B 91 3 v C.length (C.flatMap encL)) (hr : ∀ x ∈ C, W.ownsRow B' 9 1 x.2.1 x.2.2.length (x.2.2.map .string)) : LnS W v (C.map (fun x => (x.1, x.2.2))) := by
  rcases h.2 with ⟨rfl, h0⟩ | ⟨g, cap, cur, rfl, hB, hb, hc, _⟩
  · exact ⟨none, 0, by rw [List.length_map, h0], .inl (by rw [List.length_eq_zero_iff.1 h0]; rfl)⟩
  · refine ⟨_, _, by rw [List.length_map], .inr ⟨g, 0, rfl, (Array.getElem?_eq_some_iff.1 hb).1, fun i x hi => ?_⟩⟩
    rw [List.getElem?_map] at hi
    obtain ⟨y, hy, rfl⟩ := Option.map_eq_some_iff.1 hi
    have key : ∀ j u, (C.flatMap encL)[j]? = some u → W.cell? ⟨g, 0 + j, none⟩ = some u := by
      intro j u hj
      have := h.cells (g := g) rfl j u hj
      have e : (⟨g, 0, none⟩ : Addr).add j = ⟨g, 0 + j, none⟩ := by simp only [Addr.add, Nat.zero_add]; split <;> simp_all
      rw [← e]
      exact this
    have k0 := flat_get encL_len C i 0 (by omega)
    have k1 := flat_get encL_len C i 1 (by omega)
    have k2 := flat_get encL_len C i 2 (by omega)
    rw [hy] at k0 k1 k2
    exact ⟨y.2.1, key _ _ k0, key _ _ k1, key _ _ k2, strs_of_row (hr y (List.mem_of_getElem? hy)) rfl⟩
theorem info_line : (Tryz.prog.info? 91).map (fun i => (i.zero, i.size, i.bytes)) = some (some (.agg #[.string ⟨#[]⟩, .string ⟨#[]⟩, .slice none 0 0]), 3, 56) := by kernel_rfl
theorem info_key : (Tryz.prog.info? 87).map (fun i => (i.zero, i.size, i.bytes)) = some (some (.agg #[.string ⟨#[]⟩, .string ⟨#[]⟩]), 2, 32) := by kernel_rfl
theorem zero_strs (w : World) : (zeroValue 39).run Tryz.prog w = .ok (.slice none 0 0) w := by kernel_rfl
end Go.Proofs.YtfkgjbdeicggaaaGreat
