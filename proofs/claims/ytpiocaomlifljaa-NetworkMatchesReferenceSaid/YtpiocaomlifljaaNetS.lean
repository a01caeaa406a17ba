/-
  network.Arcs, walked.
-/
import Derived.Test.YtpiocaomlifljaaNetR
import Derived.DeepKeys4
import Derived.RangeFuncBox
namespace Go.Proofs.Ytpiocaomlifljaa
open Go.RowKit Go.Proofs.PlLex Go.Proofs.PlNet Go.Proofs.PlMap Go.Proofs.PlGeom
attribute [local go_sem] Oper.semAt_some run_makeMap

theorem laid : laidOutB Try.prog = true := by kernel_rfl
theorem row_arc : (49 : Nat) < Try.prog.types.size := of_decide_eq_true (by kernel_rfl)
theorem arc_law : WideMaps.KeyLaw Try.prog 49 := deep_law_laid laid (m := 3) (by omega) row_arc (by kernel_rfl) (by kernel_rfl)
theorem cells_str1 : Try.prog.cellsOf 9 = 1 := by kernel_rfl
theorem cells_int1 : Try.prog.cellsOf 3 = 1 := by kernel_rfl
theorem cells_arc : Try.prog.cellsOf 49 = 4 := by kernel_rfl
theorem ktype_arc : Try.prog.keyType 49 = true := by kernel_rfl
theorem arc_key (a : Ar) (h : okA a) : keyOf Try.prog 49 (arV a) = some (arL a) := by
  obtain ⟨d, hd⟩ : ∃ d, Try.prog.types.size + 1 = d + 2 := ⟨Try.prog.types.size - 1, by have : (49 : Nat) < Try.prog.types.size := row_arc; omega⟩
  have hf : a.f.size ≤ maxLen := Nat.le_trans h.1 (by unfold maxLen; omega)
  have ht : a.t.size ≤ maxLen := Nat.le_trans h.2.1 (by unfold maxLen; omega)
  have hw : a.w.size ≤ maxLen := Nat.le_trans h.2.2.1 (by unfold maxLen; omega)
  have hn : (Lit.int .i64 a.n).wf = true := by
    have h0 := h.2.2.2.1
    have h1 := h.2.2.2.2
    simp [Lit.wf, IntKind.min, IntKind.max, IntKind.signed, IntKind.bits]
    omega
  have hfm : (arV a).formed Try.prog 49 = true := by
    simp [arV, Value.formed, Try.underlying49, cells_arc]
  unfold keyOf
  rw [Try.underlying49]
  simp only
  rw [ktype_arc, hfm, hd]
  simp [arV, arL, Program.keyLits, Try.underlying49, Try.underlying9, Try.underlying3, cells_arc, cells_str1, cells_int1, Value.cells, hf, ht, hw, hn]
/-- A map with arcs as keys. -/
abbrev MapA (w : World) (b : Nat) (l : List (Ar × Value)) : Prop := MapL (arcKeys Try.prog 49 (Maps.Keyed.of_law arc_law) arc_key) w b l
theorem Av.ok (x : Av) : okA x.a := ⟨x.hf, x.ht, x.hw, x.h0, x.h1⟩

/-- A slice value that reads as arcs. -/
def ArO (W : World) (g o : Nat) (L : List Ar) : Prop := ∀ (i : Nat) x, L[i]? = some x → W.cell? ⟨g, o + i * 4, none⟩ = some (.string x.f) ∧ W.cell? ⟨g, o + i * 4 + 1, none⟩ = some (.string x.t) ∧ W.cell? ⟨g, o + i * 4 + 2, none⟩ = some (.string x.w) ∧ W.cell? ⟨g, o + i * 4 + 3, none⟩ = some (.int .i64 x.n)
def ArS (W : World) (v : Value) (L : List Ar) : Prop := ∃ A c, v = .slice A L.length c ∧ (L = [] ∨ ∃ g o, A = some ⟨g, o, none⟩ ∧ g < W.heap.size ∧ ArO W g o L)
theorem ArO.below {W W' : World} {g o : Nat} {L : List Ar} (h : ArO W g o L) (hg : g < W.heap.size) (hb : Below W.heap.size W W') : ArO W' g o L := fun i x hi => by
  obtain ⟨h1, h2, h3, h4⟩ := h i x hi
  exact ⟨(hb.cell (p := ⟨g, _, none⟩) hg).trans h1, (hb.cell (p := ⟨g, _, none⟩) hg).trans h2, (hb.cell (p := ⟨g, _, none⟩) hg).trans h3, (hb.cell (p := ⟨g, _, none⟩) hg).trans h4⟩
theorem ArS.below {W W' : World} {v : Value} {L : List Ar} (h : ArS W v L) (hb : Below W.heap.size W W') : ArS W' v L := by
  obtain ⟨A, c, hv, h⟩ := h
  refine ⟨A, c, hv, ?_⟩
  rcases h with h | ⟨g, o, hA, hg, hp⟩
  · exact .inl h
  · exact .inr ⟨g, o, hA, Nat.lt_of_lt_of_le hg hb.size, hp.below hg hb⟩
def arCells (a : Ar) : List Value := [.string a.f, .string a.t, .string a.w, .int .i64 a.n]
def cellsA : List Ar → List Value
  | [] => []
  | x :: r => arCells x ++ cellsA r
theorem cellsA_app (a b : List Ar) : cellsA (a ++ b) = cellsA a ++ cellsA b := by
  induction a with
  | nil => rfl
  | cons x a ih => simp only [List.cons_append, cellsA, ih, List.append_assoc]
theorem cellsA_at (r : List Ar) (i : Nat) (x : Ar) (h : r[i]? = some x) : (cellsA r)[i * 4]? = some (.string x.f) ∧ (cellsA r)[i * 4 + 1]? = some (.string x.t) ∧ (cellsA r)[i * 4 + 2]? = some (.string x.w) ∧ (cellsA r)[i * 4 + 3]? = some (.int .i64 x.n) := by
  induction r generalizing i with
  | nil => simp at h
  | cons y r ih =>
    cases i with
    | zero =>
      simp at h
      subst h
      exact ⟨rfl, rfl, rfl, rfl⟩
    | succ i =>
      obtain ⟨h1, h2, h3, h4⟩ := ih i (by simpa using h)
      have e : ∀ j, (cellsA (y :: r))[4 + j]? = (cellsA r)[j]? := fun j => by
        show (arCells y ++ cellsA r)[4 + j]? = _
        rw [List.getElem?_append_right (by simp [arCells])]
        simp [arCells]
      refine ⟨?_, ?_, ?_, ?_⟩
      · rw [show (i + 1) * 4 = 4 + i * 4 by omega, e]; exact h1
      · rw [show (i + 1) * 4 + 1 = 4 + (i * 4 + 1) by omega, e]; exact h2
      · rw [show (i + 1) * 4 + 2 = 4 + (i * 4 + 2) by omega, e]; exact h3
      · rw [show (i + 1) * 4 + 3 = 4 + (i * 4 + 3) by omega, e]; exact h4
theorem ar_of_own {W : World} {B c : Nat} {A : Option Addr} {r : List Ar} (h : W.ownsRow B 49 4 (.slice A r.length c) r.length (cellsA r)) : ArS W (.slice A r.length c) r := by
  rcases h.2 with ⟨hv, hn⟩ | ⟨g, cap, cur, hv, _, hg, hc, _⟩
  · obtain rfl := List.length_eq_zero_iff.1 hn
    exact ⟨A, c, rfl, .inl rfl⟩
  · cases hv
    refine ⟨_, _, rfl, .inr ⟨g, 0, rfl, lt_of_block hg, fun i s hi => ?_⟩⟩
    obtain ⟨e1, e2, e3, e4⟩ := cellsA_at r i s hi
    have key : ∀ j u, (cellsA r)[j]? = some u → W.cell? ⟨g, 0 + j, none⟩ = some u := by
      intro j u hj
      have := h.cells (g := g) rfl j u hj
      have e : (⟨g, 0, none⟩ : Addr).add j = ⟨g, 0 + j, none⟩ := by simp only [Addr.add, Nat.zero_add]; split <;> simp_all
      rw [← e]
      exact this
    exact ⟨key _ _ e1, key _ _ e2, key _ _ e3, key _ _ e4⟩
theorem info_arc : (Try.prog.info? 49).map (fun i => (i.zero, i.size, i.bytes)) = some (some (.agg #[.string ⟨#[]⟩, .string ⟨#[]⟩, .string ⟨#[]⟩, .int .i64 0]), 4, 56) := by kernel_rfl

theorem arcsP_len (l : List Ob) (id : ByteArray) (r : List ByteArray) : (arcsP l id r).length ≤ 2 * r.length := by
  induction r with
  | nil => simp [arcsP]
  | cons a r ih => cases r with
    | nil => simp [arcsP]
    | cons b r => simp only [arcsP, List.length_cons] at ih ⊢; omega
theorem allArcs_len (l m : List Ob) (hok : ∀ o ∈ l, okO o) : (m.flatMap (arcsO l)).length ≤ m.length * 200000 := by
  induction m with
  | nil => simp
  | cons o m ih =>
    rw [List.flatMap_cons, List.length_append, List.length_cons]
    have : (arcsO l o).length ≤ 200000 := by
      unfold arcsO
      split
      · refine Nat.le_trans (arcsP_len _ _ _) ?_
        cases e : wayAt l o.id with
        | none => simp
        | some r =>
          obtain ⟨ob, ho, _, _, hr, _⟩ := wayAt_some e
          have := (hok ob ho).2.1
          rw [hr] at this
          simp only [Option.getD_some]
          omega
      · simp
    omega
theorem onceA_len (acc l : List Ar) : (onceA acc l).length ≤ acc.length + l.length := by
  induction l generalizing acc with
  | nil => simp [onceA]
  | cons a l ih =>
    simp only [onceA]
    split
    · have := ih acc; simp only [List.length_cons]; omega
    · have := ih (acc ++ [a]); simp only [List.length_append, List.length_cons, List.length_nil] at this ⊢; omega

theorem boxed_kept {X Y : World} {row : Option Nat} {B N : Nat} {t : TypeId} {v : Value} (h : Boxed X B t v) (hg : X.grownBy Y row) (hr : ∀ r, row = some r → N ≤ r ∧ ∃ o : Obj, X.heap[r]? = some o ∧ o.isCells = false) : Boxed Y B t v :=
  h.kept hg (fun e' => by obtain ⟨_, o, ho, hc⟩ := hr B e'.symm; rw [show X.heap[B]? = _ from h] at ho; cases ho; cases hc)
theorem owns_kept {X Y : World} {row : Option Nat} {B N k size : Nat} {t : TypeId} {v : Value} {xs : List Value} (h : X.ownsRow B t size v k xs) (hg : X.grownBy Y row) (hr : ∀ r, row = some r → N ≤ r ∧ ∃ o : Obj, X.heap[r]? = some o ∧ o.isCells = false) : Y.ownsRow B t size v k xs := by
  refine h.kept hg ?_
  rcases h.2 with ⟨rfl, _⟩ | ⟨g, cap, cur, rfl, _, hgb, _⟩
  · exact .inl rfl
  · refine .inr fun e' => ?_
    obtain ⟨_, o, ho, hc⟩ := hr g (by simpa [Value.ownBlock] using e'.symm)
    rw [hgb] at ho; cases ho; cases hc
/-- The arcs so far, and those that were seen. -/
structure SeI (w : World) (bo bm n0 : Nat) (pre : List Av) (A : Option Addr) (c : Nat) (W : World) : Prop where
  size : n0 ≤ W.heap.size
  box : Boxed W bo 31 (.slice A (onceA [] (pre.map Av.a)).length c)
  row : W.ownsRow n0 49 4 (.slice A (onceA [] (pre.map Av.a)).length c) (onceA [] (pre.map Av.a)).length (cellsA (onceA [] (pre.map Av.a)))
  sb : Boxed W (bm + 1) 70 (.map (some bm))
  ml : ∃ l, MapA W bm l ∧ (∀ x, getL l x = if x ∈ onceA [] (pre.map Av.a) then some (.bool true) else none) ∧ l.length ≤ pre.length
  below : Below w.heap.size w W
def SeE (w : World) (bo bm n0 : Nat) (pre : List Av) (W : World) : Prop := ∃ A c, SeI w bo bm n0 pre A c W
theorem seE_own (w : World) (bo bm n0 B : Nat) (hB : w.heap.size ≤ B) (hbm : bm < B) : OwnFrom B (SeE w bo bm n0) := by
  rintro pre X Y row ⟨A, c, h⟩ hg hr
  obtain ⟨l, hl1, hl2⟩ := h.ml
  exact ⟨A, c, Nat.le_trans h.size hg.size, boxed_kept h.box hg hr, owns_kept h.row hg hr, boxed_kept h.sb hg hr, ⟨l, hl1.kept hg (fun e => by have := (hr bm e.symm).1; omega), hl2⟩, ownFrom_below (β := Unit) (Nat.le_refl _) hB () X Y row h.below hg hr⟩
end Go.Proofs.Ytpiocaomlifljaa
