/-
  Parse, walked.
-/
import Derived.Test.YtoodmhlefaepaaaGreatRulD
import Derived.Test.YtoodmhlefaepaaaGreatPlainB
import Derived.Test.YtoodmhlefaepaaaGreatLexP
import Derived.Deep.RegionLaw
import Derived.Deep.AppendLies
namespace Go.Proofs.YtoodmhlefaepaaaGreat
open Go.RowKit Go.Proofs.PlLex Go.Proofs.PlRule

theorem info_rule : (Tryz.prog.info? 37).map (fun i => (i.zero, i.size, i.bytes)) = some (some (.agg #[.bool false, .string ⟨#[]⟩, .int .i64 0, .string ⟨#[]⟩, .string ⟨#[]⟩, .int .i64 0, .string ⟨#[]⟩, .slice none 0 0]), 8, 112) := by kernel_rfl
def cellsRl (x : Rl × Value) : List Value := [.bool x.1.strict, .string x.1.area, .int .i64 x.1.kind, .string x.1.ik, .string x.1.iv, .int .i64 x.1.op, .string x.1.key, x.2]
def cellsRs : List (Rl × Value) → List Value
  | [] => []
  | x :: r => cellsRl x ++ cellsRs r
theorem cellsRs_app (a b : List (Rl × Value)) : cellsRs (a ++ b) = cellsRs a ++ cellsRs b := by
  induction a with
  | nil => rfl
  | cons x a ih => simp only [List.cons_append, cellsRs, ih, List.append_assoc]
/-- Rules in a row of the call's own, each with a row of values of its own. -/
structure RrI (B : Nat) (l : List (Rl × Value)) (v : Value) (W : World) : Prop where
  row : W.ownsRow B 37 8 v l.length (cellsRs l)
  vals : ∀ x ∈ l, W.ownsRow B 9 1 x.2 x.1.vals.length (x.1.vals.map .string)
theorem RrI.mono {B B' : Nat} {l : List (Rl × Value)} {v : Value} {W : World} (h : RrI B l v W) (hb : B' ≤ B) : RrI B' l v W := by
  have key : ∀ {e : TypeId} {sz : Nat} {v : Value} {n : Nat} {xs : List Value}, W.ownsRow B e sz v n xs → W.ownsRow B' e sz v n xs := fun h => ⟨h.1, h.2.imp id (by rintro ⟨g, cap, cur, h1, h2, h3⟩; exact ⟨g, cap, cur, h1, Nat.le_trans hb h2, h3⟩)⟩
  exact ⟨key h.row, fun x hx => key (h.vals x hx)⟩
theorem RrI.nil (B : Nat) (W : World) : RrI B [] (.slice none 0 0) W := ⟨World.ownsRow_nil _ _ _ _, fun _ h => nomatch h⟩
theorem RrI.kept {B : Nat} {l : List (Rl × Value)} {v : Value} {W W' : World} (h : RrI B l v W) {row : Option Nat} (hg : W.grownBy W' row) (hr : ∀ x, row = some x → x < B) : RrI B l v W' :=
  ⟨own_grown h.row hg hr, fun x hx => own_grown (h.vals x hx) hg hr⟩
theorem own_objs {w : World} {B : Nat} {e : TypeId} {sz : Nat} {v : Value} {n : Nat} {xs : List Value} (h : w.ownsRow B e sz v n xs) {b : Nat} (hb : v.ownBlock = some b) : ∃ cur, w.heap[b]? = some (.cells cur e (0, 0)) := by
  rcases h.2 with ⟨rfl, _⟩ | ⟨g, cap, cur, rfl, hg, hh, r⟩
  · cases hb
  · cases hb
    exact ⟨cur, hh⟩
theorem own_far {w w' : World} {B : Nat} {e e' : TypeId} {sz sz' : Nat} {v v' : Value} {n n' : Nat} {xs xs' : List Value} (h : w.ownsRow B e sz v n xs) (h' : w.ownsRow B e' sz' v' n' xs') (he : e ≠ e') (hg : w.grownBy w' v'.ownBlock) : w'.ownsRow B e sz v n xs := by
  obtain ⟨h1, h2⟩ := h
  refine ⟨h1, ?_⟩
  rcases h2 with h2 | ⟨g, cap, cur, hv, hgb, hh, rr⟩
  · exact .inl h2
  · refine .inr ⟨g, cap, cur, hv, hgb, (hg.block g (lt_of_blk hh) (fun hn => ?_)).trans hh, rr⟩
    obtain ⟨c2, h3⟩ := own_objs h' hn.symm
    rw [hh] at h3
    cases h3
    exact he rfl
theorem RrI.more {B : Nat} {l : List (Rl × Value)} {v : Value} {W W' : World} {x : Rl × Value} {g cap : Nat} (h : RrI B l v W) (hx : W.ownsRow B 9 1 x.2 x.1.vals.length (x.1.vals.map .string))
    (ho : W'.ownsRow B 37 8 (.slice (some ⟨g, 0, none⟩) (l.length + 1) cap) (l.length + 1) (cellsRs l ++ cellsRl x)) (hg : W.grownBy W' v.ownBlock) :
    RrI B (l ++ [x]) (.slice (some ⟨g, 0, none⟩) (l ++ [x]).length cap) W' := by
  have hlen : (l ++ [x]).length = l.length + 1 := by simp
  rw [hlen]
  refine ⟨?_, fun y hy => ?_⟩
  · rw [cellsRs_app, hlen]
    simpa [cellsRs] using ho
  · rcases List.mem_append.1 hy with hy | hy
    · exact own_far (h.vals y hy) h.row (by decide) hg
    · rw [List.mem_singleton] at hy
      subst hy
      exact own_far hx h.row (by decide) hg
theorem prs_of {w : World} {B b n : Nat} {A : Option Addr} {c : Nat} {ts : List Tok} (h : OwnTok w B (.slice A ts.length c) ts) (hb : w.heap[b]? = some (.cells #[.slice A ts.length c, .int .i64 (n : Int)] 69 (0, 0))) (hlt : ∀ g, (Value.slice A ts.length c).ownBlock = some g → g < b) (hn : n ≤ 1000000) (hl : ts.length ≤ 1000000) (ho : ∀ t ∈ ts, t.off ≤ 1000000) : PrsI b n ts w := by
  refine ⟨⟨A, c, hb, ?_, ?_⟩, hl, hn⟩
  · rcases h.2 with ⟨hv, h0⟩ | ⟨g, cap, cur, hv, hg, hh, hc, _⟩
    · omega
    · cases hv; exact hc
  · rcases h.2 with ⟨hv, h0⟩ | ⟨g, cap, cur, hv, hg, hh, hc, _⟩
    · exact .inl (List.length_eq_zero_iff.1 h0)
    · cases hv
      refine .inr ⟨g, 0, rfl, hlt g rfl, fun i t ht => ?_⟩
      obtain ⟨e1, e2, e3⟩ := cellsL_get ts i t ht
      have key : ∀ j u, (cellsL ts)[j]? = some u → w.cell? ⟨g, 0 + j, none⟩ = some u := by
        intro j u hj
        have := World.ownsRow.cells h (g := g) rfl j u hj
        have e : (⟨g, 0, none⟩ : Addr).add j = ⟨g, 0 + j, none⟩ := by simp only [Addr.add, Nat.zero_add]; split <;> simp_all
        rw [← e]
        exact this
      exact ⟨key _ _ e1, key _ _ e2, key _ _ e3, ho t (List.mem_of_getElem? ht)⟩
/-- The three results' variables. -/
structure ThI (w : World) (b0 b1 b2 : Nat) (v0 v1 v2 : Value) (W : World) : Prop where
  k0 : W.heap[b0]? = some (.cells #[v0] 22 (0, 0))
  k1 : W.heap[b1]? = some (.cells #[v1] 25 (0, 0))
  k2 : W.heap[b2]? = some (.cells #[v2] 3 (0, 0))
  e0 : b0 = w.heap.size
  e1 : b1 = b0 + 1
  e2 : b2 = b1 + 1
  below : Below w.heap.size w W
theorem ThI.start (w : World) (v0 v1 v2 : Value) : ThI w w.heap.size (w.heap.size + 1) (w.heap.size + 1 + 1) v0 v1 v2 (((w.alloc (.cells #[v0] 22)).alloc (.cells #[v1] 25)).alloc (.cells #[v2] 3)) := by
  have n0 := heap_alloc_new w (.cells #[v0] 22)
  generalize hA : w.alloc (.cells #[v0] 22) = A at *
  have zA : A.heap.size = w.heap.size + 1 := by rw [← hA]; simp
  have n1 := heap_alloc_new A (.cells #[v1] 25)
  have o1 := heap_alloc_old A (.cells #[v1] 25) (lt_of_blk n0)
  generalize hB : A.alloc (.cells #[v1] 25) = B at *
  have zB : B.heap.size = w.heap.size + 1 + 1 := by rw [← hB, ← zA]; simp
  have n2 := heap_alloc_new B (.cells #[v2] 3)
  have h1 := o1.trans n0
  have o2 := heap_alloc_old B (.cells #[v2] 3) (lt_of_blk h1)
  have o3 := heap_alloc_old B (.cells #[v2] 3) (lt_of_blk n1)
  have hb : Below w.heap.size w (B.alloc (.cells #[v2] 3)) := by
    rw [← hB, ← hA]
    exact (((Below.refl _ _).alloc (Nat.le_refl _) _).alloc (by simp) _).alloc (by simp; omega) _
  rw [zB] at n2
  rw [zA] at n1 o3
  exact ⟨o2.trans h1, o3.trans n1, n2, rfl, rfl, rfl, hb⟩
theorem ThI.lift {w : World} {b0 b1 b2 : Nat} {v0 v1 v2 : Value} {W W' : World} (h : ThI w b0 b1 b2 v0 v1 v2 W) (hb : Below W.heap.size W W') : ThI w b0 b1 b2 v0 v1 v2 W' :=
  ⟨(hb.block b0 (lt_of_blk h.k0)).trans h.k0, (hb.block b1 (lt_of_blk h.k1)).trans h.k1, (hb.block b2 (lt_of_blk h.k2)).trans h.k2, h.e0, h.e1, h.e2, h.below.trans (hb.mono h.below.size)⟩
theorem ThI.grown {w : World} {b0 b1 b2 : Nat} {v0 v1 v2 : Value} {W W' : World} {row : Option Nat} (h : ThI w b0 b1 b2 v0 v1 v2 W) (hg : W.grownBy W' row) (hr : ∀ x, row = some x → b2 < x) : ThI w b0 b1 b2 v0 v1 v2 W' := by
  have e0 := h.e0
  have e1 := h.e1
  have e2 := h.e2
  have key : ∀ i, i < W.heap.size → i ≤ b2 → W'.heap[i]? = W.heap[i]? := fun i hi hn => hg.block i hi (fun e => by have := hr i e.symm; omega)
  refine ⟨(key b0 (lt_of_blk h.k0) (by omega)).trans h.k0, (key b1 (lt_of_blk h.k1) (by omega)).trans h.k1, (key b2 (lt_of_blk h.k2) (by omega)).trans h.k2, h.e0, h.e1, h.e2, ?_⟩
  exact ⟨hg.os.trans h.below.os, hg.tape.trans h.below.tape, hg.output.trans h.below.output, Nat.le_trans h.below.size hg.size, fun i hi => (key i (Nat.lt_of_lt_of_le hi h.below.size) (by omega)).trans (h.below.block i hi)⟩
theorem ThI.set0 {w : World} {b0 b1 b2 : Nat} {v0 v1 v2 : Value} {W : World} (h : ThI w b0 b1 b2 v0 v1 v2 W) (v : Value) : ThI w b0 b1 b2 v v1 v2 (W.setCell ⟨b0, 0, none⟩ v) := by
  have e0 := h.e0
  have e1 := h.e1
  have e2 := h.e2
  have hg := set_grown W b0 0 v
  exact ⟨set_blk h.k0 0 v, (hg.block b1 (lt_of_blk h.k1) (fun e => by cases e; omega)).trans h.k1, (hg.block b2 (lt_of_blk h.k2) (fun e => by cases e; omega)).trans h.k2, h.e0, h.e1, h.e2, h.below.setCell (by show w.heap.size ≤ b0; omega) v⟩
theorem ThI.set1 {w : World} {b0 b1 b2 : Nat} {v0 v1 v2 : Value} {W : World} (h : ThI w b0 b1 b2 v0 v1 v2 W) (v : Value) : ThI w b0 b1 b2 v0 v v2 (W.setCell ⟨b1, 0, none⟩ v) := by
  have e0 := h.e0
  have e1 := h.e1
  have e2 := h.e2
  have hg := set_grown W b1 0 v
  exact ⟨(hg.block b0 (lt_of_blk h.k0) (fun e => by cases e; omega)).trans h.k0, set_blk h.k1 0 v, (hg.block b2 (lt_of_blk h.k2) (fun e => by cases e; omega)).trans h.k2, h.e0, h.e1, h.e2, h.below.setCell (by show w.heap.size ≤ b1; omega) v⟩
theorem ThI.set2 {w : World} {b0 b1 b2 : Nat} {v0 v1 v2 : Value} {W : World} (h : ThI w b0 b1 b2 v0 v1 v2 W) (v : Value) : ThI w b0 b1 b2 v0 v1 v (W.setCell ⟨b2, 0, none⟩ v) := by
  have e0 := h.e0
  have e1 := h.e1
  have e2 := h.e2
  have hg := set_grown W b2 0 v
  exact ⟨(hg.block b0 (lt_of_blk h.k0) (fun e => by cases e; omega)).trans h.k0, (hg.block b1 (lt_of_blk h.k1) (fun e => by cases e; omega)).trans h.k1, set_blk h.k2 0 v, h.e0, h.e1, h.e2, h.below.setCell (by show w.heap.size ≤ b2; omega) v⟩
theorem below_drewW (w : World) : Below w.heap.size w w.drew := (Below.refl _ _).drew
theorem ThI.ne {w : World} {b0 b1 b2 : Nat} {v0 v1 v2 : Value} {W : World} (h : ThI w b0 b1 b2 v0 v1 v2 W) : b0 ≠ b1 ∧ b0 ≠ b2 ∧ b1 ≠ b2 ∧ b1 ≠ b0 ∧ b2 ≠ b0 ∧ b2 ≠ b1 := by
  have e0 := h.e0
  have e1 := h.e1
  have e2 := h.e2
  omega
theorem ThI.cell {w : World} {b0 b1 b2 : Nat} {v0 v1 v2 : Value} {W : World} (h : ThI w b0 b1 b2 v0 v1 v2 W) :
    (W.cell? ⟨b0, 0, none⟩ = some v0 ∧ W.cell? ⟨b1, 0, none⟩ = some v1 ∧ W.cell? ⟨b2, 0, none⟩ = some v2) ∧ (W.frozen? ⟨b0, 0, none⟩ = false ∧ W.frozen? ⟨b1, 0, none⟩ = false ∧ W.frozen? ⟨b2, 0, none⟩ = false) := by
  have k0 := h.k0
  have k1 := h.k1
  have k2 := h.k2
  refine ⟨⟨cell_of_row W b0 0 _ _ _ k0, cell_of_row W b1 0 _ _ _ k1, cell_of_row W b2 0 _ _ _ k2⟩, ?_, ?_, ?_⟩
  · simp [World.frozen?, k0]
  · simp [World.frozen?, k1]
  · simp [World.frozen?, k2]
set_option maxRecDepth 100000 in
set_option maxHeartbeats 16000000 in
theorem parse_err (s : BA) (w : World) (hs : s.size ≤ 1000000) (he : ¬ (lex (tx s)).2.1 = 0) :
    Calls Tryz.prog 8 #[.string s] w fun e w' => e = .returned (.tuple #[.slice none 0 0, .int .i64 ((lex (tx s)).2.1 : Int), .int .i64 (lex (tx s)).2.2]) ∧ Below w.heap.size w w' := by
  have HL := hide (fun w => lex_any s w hs)
  have hth := ThI.start w (.slice none 0 0) (.int .i64 0) (.int .i64 0)
  have hne : ¬ ((lex (tx s)).2.1 : Int) = 0 := by omega
  generalize hlx : lex (tx s) = X at *
  obtain ⟨ts, er, off⟩ := X
  simp only at hne he
  have HLX := hide hlx
  have HTH := hide hth
  clear he hlx hth
  go_enter_defers Tryz.func8, Tryz.ntmps8
  go_wp2_with fail
  generalize ((w.alloc (.cells #[.slice none 0 0] 22)).alloc (.cells #[.int .i64 0] 25)).alloc (.cells #[.int .i64 0] 3) = w0 at *
  generalize w.heap.size + 1 + 1 = b2 at *
  generalize w.heap.size + 1 = b1 at *
  generalize hb0 : w.heap.size = b0 at *
  refine (HL.out _).mono ?_
  rintro _ w1 ⟨v, rfl, h1, h2⟩
  have e1 : lex s.data.toList = (ts, er, off) := HLX.out
  rw [e1] at h1 ⊢
  have hth := HTH.out.lift h2
  have HT2 := hide ((hth.set1 (.int .i64 (er : Int))).set2 (.int .i64 off))
  obtain ⟨⟨c0, c1, c2⟩, f0, f1, f2⟩ := hth.cell
  obtain ⟨d01, d02, d12, d10, d20, d21⟩ := hth.ne
  have HB := hide hb0
  clear e1 h1 h2 hth hb0
  go_upto_region 3 with (fail)
  generalize (w1.setCell ⟨b1, 0, none⟩ (.int .i64 (er : Int))).setCell ⟨b2, 0, none⟩ (.int .i64 off) = w2 at *
  clear c0 c1 c2 f0 f1 f2
  obtain ⟨⟨c0, c1, c2⟩, f0, f1, f2⟩ := HT2.out.cell
  go_region
  have HT3 := hide ((((HT2.out.set0 (.slice none 0 0)).set1 (.int .i64 (er : Int))).set2 (.int .i64 off)).lift (below_drewW _))
  clear c0 c1 c2 f0 f1 f2
  go_wp2_with fail
  generalize (((w2.setCell ⟨b0, 0, none⟩ (.slice none 0 0)).setCell ⟨b1, 0, none⟩ (.int .i64 (er : Int))).setCell ⟨b2, 0, none⟩ (.int .i64 off)).drew = w3 at *
  obtain ⟨⟨c0, c1, c2⟩, _⟩ := HT3.out.cell
  refine ⟨.tuple #[.slice none 0 0, .int .i64 (er : Int), .int .i64 off], ?_, rfl, HT3.out.below⟩
  simp [results, Tryz.results8, go_sem, c0, c1, c2]
theorem PrsI.far {b n : Nat} {r : List Tok} {W W' : World} {b0 : Nat} (h : PrsI b n r W) (hg : W.grownBy W' (some b0)) (hne : b0 ≠ b) {A : Option Addr} {m c : Nat} {t : TypeId} (hk : W.heap[b0]? = some (.cells #[.slice A m c] t (0, 0))) : PrsI b n r W' := by
  obtain ⟨A1, c1, hbk, hc, hA⟩ := h.cell
  have hlt := lt_of_blk hbk
  refine ⟨⟨A1, c1, (hg.block b hlt (fun e => by cases e; exact hne rfl)).trans hbk, hc, ?_⟩, h.few, h.size⟩
  rcases hA with hA | ⟨g, o, hA, hgb, ht⟩
  · exact .inl hA
  · cases r with
    | nil => exact .inl rfl
    | cons u r =>
      refine .inr ⟨g, o, hA, hgb, ?_⟩
      have hgn : g ≠ b0 := by
        rintro rfl
        obtain ⟨h1, _⟩ := ht 0 u rfl
        rw [Nat.zero_mul, Nat.add_zero] at h1
        simp only [World.cell?, hk] at h1
        rcases o with _ | o <;> simp at h1
      intro i t hi
      have key := fun j => cell_grown hg (g := g) (by omega) (fun e => by cases e; exact hgn rfl) j
      obtain ⟨h1, h2, h3, h4⟩ := ht i t hi
      exact ⟨(key _).trans h1, (key _).trans h2, (key _).trans h3, h4⟩
theorem rule_ok (b n : Nat) (r : List Tok) (w : World) (h : PrsI b n r w) (hr : tokLen r) {x : Rl} {r' : List Tok} (hx : ruleR r = .ok (x, r')) :
    Calls Tryz.prog 23 #[.pointer (some ⟨b, 0, none⟩)] w fun e w' => ∃ A c, e = .returned (vRl x (.slice A x.vals.length c)) ∧ VaI w b n r' (.slice A x.vals.length c) x.vals w' := by
  refine (rule_any b n r w h hr).mono ?_
  rintro e w' (⟨x2, r2, v, h1, h2, h3⟩ | ⟨y, h1, h2, h3⟩)
  · rw [hx] at h1
    cases h1
    obtain ⟨A, c, rfl⟩ := own_shape h3.row
    exact ⟨A, c, h2, h3⟩
  · rw [hx] at h1; cases h1
theorem rule_no (b n : Nat) (r : List Tok) (w : World) (h : PrsI b n r w) (hr : tokLen r) {y : Nat × List Tok} (hx : ruleR r = .error y) :
    Calls Tryz.prog 23 #[.pointer (some ⟨b, 0, none⟩)] w fun e w' => e = fltE n y ∧ w.grownBy w' (some b) := by
  refine (rule_any b n r w h hr).mono ?_
  rintro e w' (⟨x2, r2, v, h1, h2, h3⟩ | ⟨y2, h1, h2, h3⟩)
  · rw [hx] at h1; cases h1
  · rw [hx] at h1
    cases h1
    exact ⟨h2, h3⟩
/-- An invariant of what has come up, of the frame and of the world serves every order of a region that draws its order. -/
theorem wpAny_inv {P : Program} {md : Region.Mode} {ops : Array Oper} {Q : Exit → Act → World → Prop} (I : Array Bool → Act → World → Prop)
    (hstep : ∀ listed a w i, I listed a w → i ∈ Region.ready md ops listed → wpOp P ops Q i (fun a' w' => I (listed.setIfInBounds i true) a' w') a w)
    (hend : ∀ listed a w, I listed a w → Region.ready md ops listed = [] → Q .normal a w) :
    ∀ (fuel : Nat) (listed : Array Bool) (a : Act) (w : World), listed.toList.count false ≤ fuel → I listed a w → wpAny P md ops Q fuel listed a w := by
  have wpOp_mono : ∀ {i : Nat} {a : Act} {w : World} {K K' : Act → World → Prop}, (∀ a w, K a w → K' a w) → wpOp P ops Q i K a w → wpOp P ops Q i K' a w := by
    intro i a w K K' h hh
    unfold wpOp at *
    split
    · rename_i ho; simp only [ho] at hh; exact h _ _ hh
    · rename_i o ho
      simp only [ho] at hh
      split
      · rename_i hw
        simp only [hw, if_true] at hh
        rcases hh with hh | hh
        · exact .inl (Oper.wp_mono h hh)
        · exact .inr hh
      · rename_i hw
        simp only [hw] at hh
        exact h _ _ hh
  intro fuel
  induction fuel with
  | zero =>
    intro listed a w hc hI
    have hr : Region.ready md ops listed = [] := by
      rcases hl : Region.ready md ops listed with _ | ⟨i, l⟩
      · rfl
      · have hi : i ∈ Region.ready md ops listed := by rw [hl]; exact List.mem_cons_self
        have h0 := (mem_ready.1 hi).1
        have hlt : i < listed.size := by
          rcases Nat.lt_or_ge i listed.size with h | h
          · exact h
          · simp [h] at h0
        have hm : false ∈ listed.toList := by
          rw [Array.getD_eq_getD_getElem?, Array.getElem?_eq_getElem hlt, Option.getD_some] at h0
          rw [← h0]
          exact Array.getElem_mem_toList hlt
        have := List.count_pos_iff.2 hm
        omega
    exact ⟨hr, hend _ _ _ hI hr⟩
  | succ fuel ih =>
    intro listed a w hc hI
    refine ⟨hend _ _ _ hI, fun i hi => ?_⟩
    have h0 := (mem_ready.1 hi).1
    have hlt : i < listed.size := by
      rcases Nat.lt_or_ge i listed.size with h | h
      · exact h
      · simp [h] at h0
    rw [Array.getD_eq_getD_getElem?, Array.getElem?_eq_getElem hlt, Option.getD_some] at h0
    refine wpOp_mono (fun a' w' h => ih _ a' w' ?_ h) (hstep listed a w i hI hi)
    rw [Array.toList_setIfInBounds, List.count_set (by simpa using hlt)]
    simp only [Array.getElem_toList, h0]
    rw [if_pos (by decide), if_neg (by decide)]
    omega

/-- One operation of a region, what follows behind a variable. -/
theorem wpOp_run {P : Program} {ops : Array Oper} {Q : Exit → Act → World → Prop} {i : Nat} {o : Oper} {K' : Act → World → Prop} {a : Act} {w : World} (ho : ops[i]? = some o) (hg : o.guard = none)
    (h : ∀ K : Act → World → Prop, (∀ a w, K' a w → K a w) → o.wp P a w K Q) : wpOp P ops Q i K' a w := by
  unfold wpOp
  simp only [ho]
  rw [if_pos (by simp [Region.wanted, hg])]
  exact .inl (h K' fun _ _ h => h)

def fr9 (pre post : List Value) (ds : List Deferred) (x34 x35 x36 x37 x38 : Value) : Act := ⟨(pre ++ [x34, x35, x36, x37, x38] ++ post).toArray, ds⟩
/-- The way of a region with an error: what has come up of it. -/
def R9e (pre post : List Value) (ds : List Deferred) (v34 v35 : Value) (w9 : World) (listed : Array Bool) (a : Act) (wx : World) : Prop :=
  ∃ (o0 o1 : Bool) (x34 x35 x36 x37 x38 : Value), listed = #[o0, o1, false, false, false, false] ∧ a = fr9 pre post ds x34 x35 x36 x37 x38 ∧ wx = w9 ∧ (o0 = true → x34 = v34) ∧ (o1 = true → x35 = v35)
/-- Between two rules. -/
structure Md9 (w : World) (b0 b1 b2 bp n B : Nat) (off : Int) (v0 : Value) (r : List Tok) (l : List (Rl × Value)) (vl : Value) (W : World) : Prop where
  prs : PrsI bp n r W
  th : ThI w b0 b1 b2 v0 (.int .i64 0) (.int .i64 off) W
  rr : RrI B l vl W
  sz : B ≤ W.heap.size
/-- The way of the region with a rule: what has come up of it. -/
def R9k (pre post : List Value) (ds : List Deferred) (w w9 : World) (b0 b1 b2 bp n B : Nat) (off : Int) (r2 : List Tok) (l : List (Rl × Value)) (Al : Option Addr) (cl : Nat) (x : Rl) (listed : Array Bool) (a : Act) (wx : World) : Prop :=
  ∃ (o0 : Bool) (x34 x35 x36 x37 x38 : Value), (o0 = true → x34 = .slice Al l.length cl) ∧ a = fr9 pre post ds x34 x35 x36 x37 x38 ∧
    ((listed = #[o0, false, false, false, false, false] ∧ wx = w9) ∨
     (listed = #[o0, true, false, false, false, false] ∧ wx = w9 ∧ x35 = .pointer (some ⟨bp, 0, none⟩)) ∨
     (listed = #[o0, true, true, false, false, false] ∧ ∃ A7 c7, x36 = vRl x (.slice A7 x.vals.length c7) ∧ VaI w9 bp n r2 (.slice A7 x.vals.length c7) x.vals wx) ∨
     (listed = #[o0, true, true, true, false, false] ∧ ∃ A7 c7 w7, x37 = .slice (some ⟨w7.heap.size, 0, none⟩) 1 1 ∧ VaI w9 bp n r2 (.slice A7 x.vals.length c7) x.vals w7 ∧ wx = w7.alloc (.cells #[.bool x.strict, .string x.area, .int .i64 x.kind, .string x.ik, .string x.iv, .int .i64 x.op, .string x.key, .slice A7 x.vals.length c7] 37)) ∨
     (listed = #[true, true, true, true, true, false] ∧ ∃ vv g cap, x38 = .slice (some ⟨g, 0, none⟩) (l.length + 1) cap ∧ Md9 w b0 b1 b2 bp n B off (.slice Al l.length cl) r2 (l ++ [(x, vv)]) x38 wx) ∨
     (listed = #[true, true, true, true, true, true] ∧ ∃ vv g cap, Md9 w b0 b1 b2 bp n B off (.slice (some ⟨g, 0, none⟩) (l.length + 1) cap) r2 (l ++ [(x, vv)]) (.slice (some ⟨g, 0, none⟩) (l.length + 1) cap) wx))
theorem ruleR_sub {r r' : List Tok} {x : Rl} (h : ruleR r = .ok (x, r')) (hl : tokLen r) : r'.length < r.length ∧ tokLen r' := by
  obtain ⟨h1, h2⟩ := rule_suf h
  exact ⟨h2, fun t ht => hl t (h1.subset ht)⟩
theorem own_low {W : World} {B B' : Nat} {e : TypeId} {sz : Nat} {v : Value} {n : Nat} {xs : List Value} (h : W.ownsRow B e sz v n xs) (hb : B' ≤ B) : W.ownsRow B' e sz v n xs := ⟨h.1, h.2.imp id (by rintro ⟨g, cap, cur, h1, h2, h3⟩; exact ⟨g, cap, cur, h1, Nat.le_trans hb h2, h3⟩)⟩
def restLen (b : Nat) (w : World) : Nat := match w.cell? ⟨b, 0, none⟩ with | some (.slice _ m _) => m | _ => 0
theorem restLen_of {b : Nat} {w : World} {A : Option Addr} {m c : Nat} (h : w.cell? ⟨b, 0, none⟩ = some (.slice A m c)) : restLen b w = m := by unfold restLen; rw [h]
theorem rulesR_succ (f : Nat) (l : List Rl) (r : List Tok) : rulesR (f + 1) l r = if r.isEmpty then .ok l else if l.length = 200 then .error (2, r) else bnd (ruleR r) (fun p => rulesR f (l ++ [p.1]) p.2) := rfl
set_option maxRecDepth 100000 in
set_option maxHeartbeats 16000000 in
theorem parse_run (s : BA) (w : World) (hs : s.size ≤ 1000000) (ts : List Tok) (off : Int) (hlx : lex (tx s) = (ts, 0, off)) (V : Res (List Rl)) (hV : rulesR (ts.length + 1) [] ts = V) :
    Calls Tryz.prog 8 #[.string s] w fun e w' =>
      (∃ l v, V = .ok (l.map Prod.fst) ∧ e = .returned (.tuple #[v, .int .i64 0, .int .i64 0]) ∧ RrI w.heap.size l v w' ∧ Below w.heap.size w w') ∨
      ∃ x, V = .error x ∧ e = .returned (.tuple #[.slice none 0 0, .int .i64 ((errAt s.size x).1 : Int), .int .i64 (errAt s.size x).2]) ∧ Below w.heap.size w w' := by
  obtain ⟨i0, hi, hz0, hz1, hz2⟩ := info_split info_rule
  have HI := hide hi
  have HZ0 := hide hz0
  have HZ1 := hide hz1
  have HZ2 := hide hz2
  have HL := hide (fun w => lex_any s w hs)
  have hth := ThI.start w (.slice none 0 0) (.int .i64 0) (.int .i64 0)
  have hlo := lex_offs (tx s)
  rw [hlx] at hlo
  have HLO := hide hlo
  have HLT : Hid (tokLen ts) := fun t ht => by
    have := lex_text (tx s) t (by rw [hlx]; exact ht)
    have h2 : (tx s).length = s.size := rfl
    omega
  have HLX := hide hlx
  have HTH := hide hth
  have HV := hide hV
  have HS := hide hs
  have hmf : ∀ (fn : Fn) (first cap : Array Value) (w : World), (Instr.makeFunc fn first cap).run Tryz.prog w = .ok (.func fn first cap) w := fun _ _ _ _ => rfl
  clear hlx hth hV hi hz0 hz1 hz2 hlo
  go_enter_defers Tryz.func8, Tryz.ntmps8
  go_wp2_with fail
  generalize ((w.alloc (.cells #[.slice none 0 0] 22)).alloc (.cells #[.int .i64 0] 25)).alloc (.cells #[.int .i64 0] 3) = w0 at *
  generalize w.heap.size + 1 + 1 = b2 at *
  generalize w.heap.size + 1 = b1 at *
  generalize hb0 : w.heap.size = b0 at *
  refine (HL.out _).mono ?_
  rintro _ w1 ⟨v, rfl, h1, h2⟩
  have e1 : lex s.data.toList = (ts, 0, off) := HLX.out
  rw [e1] at h1 ⊢
  have hth := HTH.out.lift h2
  have HT2 := hide ((hth.set1 (.int .i64 0)).set2 (.int .i64 off))
  obtain ⟨⟨c0, c1, c2⟩, f0, f1, f2⟩ := hth.cell
  obtain ⟨d01, d02, d12, d10, d20, d21⟩ := hth.ne
  obtain ⟨A, c, rfl⟩ := own_shape h1
  have HB := hide hb0
  have HOT := hide h1
  have HB1 := hide h2
  clear e1 h1 h2 hth hb0
  go_wp2_with fail
  have hgo : (Value.slice A ts.length c).ownBlock.all (fun g => decide (w0.heap.size ≤ g)) = true := by
    cases h : (Value.slice A ts.length c).ownBlock with
    | none => rfl
    | some g => simpa using own_blk HOT.out h
  generalize hw2 : (w1.setCell ⟨b1, 0, none⟩ (.int .i64 0)).setCell ⟨b2, 0, none⟩ (.int .i64 off) = w2 at *
  have hz2 : w1.heap.size = w2.heap.size := by rw [← hw2]; simp [World.setCell]
  have hw0 : b2 < w0.heap.size := lt_of_blk HTH.out.k2
  have HO2 : Hid (OwnTok w2 w0.heap.size (.slice A ts.length c) ts) := by
    have g1 := set_grown w1 b1 0 (.int .i64 0)
    have g2 := set_grown (w1.setCell ⟨b1, 0, none⟩ (.int .i64 0)) b2 0 (.int .i64 off)
    rw [hw2] at g2
    have hth := HT2.out
    have e1 := hth.e1
    have e2 := hth.e2
    exact hide (own_grown (own_grown HOT.out g1 (fun x hx => by cases hx; omega)) g2 (fun x hx => by cases hx; omega))
  rw [hz2]
  generalize hbp : w2.heap.size = bp at *
  obtain ⟨w3, hw3⟩ : ∃ w3, w2.alloc (.cells #[.slice A ts.length c, .int .i64 (s.size : Int)] 69) = w3 := ⟨_, rfl⟩
  have hb3 : Below w2.heap.size w2 w3 := by rw [← hw3]; exact (Below.refl _ _).alloc (Nat.le_refl _) _
  have hn3 : w3.heap[bp]? = some (.cells #[.slice A ts.length c, .int .i64 (s.size : Int)] 69 (0, 0)) := by rw [← hw3, ← hbp]; exact heap_alloc_new _ _
  rw [hw3]
  have hb2p : b2 < bp := by rw [← hbp]; exact lt_of_blk HT2.out.k2
  have HPR : Hid (PrsI bp s.size ts w3) := by
    refine hide (prs_of (own_grown HO2.out (below_grown hb3 none) (fun x hx => by cases hx)) hn3 (fun g hg => ?_) HS.out (by have := HLO.out.1; omega) HLO.out.2)
    obtain ⟨cur, hc⟩ := own_objs HO2.out hg
    have := lt_of_blk hc
    omega
  have HT3 := hide (HT2.out.lift hb3)
  have HBP := hide hb2p
  have HT3S := hide (show b0 ≤ w3.heap.size from by have := HT3.out.e1; have := HT3.out.e2; have := lt_of_blk HT3.out.k2; omega)
  have HW3 := hide (lt_of_blk hn3)
  clear hgo hw2 hz2 hw0 HO2 hbp hw3 hb3 hn3 hb2p HOT HB1 HT2 HTH HL HLX c0 c1 c2 f0 f1 f2
  go_loopw [] (fun wr => ∃ (f : Nat) (r : List Tok) (l : List (Rl × Value)) (A : Option Addr) (c : Nat), Hid (r.length < f) ∧ Hid (tokLen r) ∧ l.length ≤ 200 ∧ Hid (rulesR f (l.map Prod.fst) r = V) ∧ Hid (PrsI bp s.size r wr) ∧ Hid (ThI w b0 b1 b2 (.slice A l.length c) (.int .i64 0) (.int .i64 off) wr) ∧ Hid (RrI w3.heap.size l (.slice A l.length c) wr) ∧ Hid (w3.heap.size ≤ wr.heap.size)) (fun wr => restLen bp wr)
  case atStart => exact ⟨_, ts, [], none, 0, hide (Nat.lt_succ_self _), HLT, by simp, HV, HPR, HT3, RrI.nil _ _, hide (Nat.le_refl _)⟩
  case round =>
    clear HV HPR HT3 HLT
    obtain ⟨f, r, l, Al, cl, hf, hlt, hl, hv, hpr, hth, hrr, hsz⟩ := hrel
    obtain ⟨f, rfl⟩ : ∃ f', f = f' + 1 := ⟨f - 1, by have := hf.out; omega⟩
    have hv2 := hv.out
    rw [rulesR_succ] at hv2
    have HF := hide hf.out
    have HLT := hide hlt.out
    have HPR := hide hpr.out
    have HTH := hide hth.out
    have HRR := hide hrr.out
    have HSZ := hide hsz.out
    obtain ⟨Ar, cr, hbk, _, _⟩ := hpr.out.cell
    have d0 : wr.cell? ⟨bp, 0, none⟩ = some (.slice Ar r.length cr) := cell_of_row wr bp 0 _ _ _ hbk
    obtain ⟨⟨c0, c1, c2⟩, f0, f1, f2⟩ := hth.out.cell
    clear hf hlt hv hpr hth hrr hsz hbk
    cases r with
    | nil =>
      have HVV : Hid (V = .ok (l.map Prod.fst)) := hide hv2.symm
      clear hv2
      go_wp2_with fail
      have HT9 := hide (((HTH.out.set0 (.slice Al l.length cl)).set1 (.int .i64 0)).set2 (.int .i64 0))
      have HR9 : Hid (RrI w3.heap.size l (.slice Al l.length cl) (((wr.setCell ⟨b0, 0, none⟩ (.slice Al l.length cl)).setCell ⟨b1, 0, none⟩ (.int .i64 0)).setCell ⟨b2, 0, none⟩ (.int .i64 0))) := by
        have e1 := HTH.out.e1
        have e2 := HTH.out.e2
        have h1 := HBP.out
        have h2 := HW3.out
        exact hide (((HRR.out.kept (set_grown _ b0 0 _) (fun x hx => by cases hx; omega)).kept (set_grown _ b1 0 _) (fun x hx => by cases hx; omega)).kept (set_grown _ b2 0 _) (fun x hx => by cases hx; omega))
      generalize ((wr.setCell ⟨b0, 0, none⟩ (.slice Al l.length cl)).setCell ⟨b1, 0, none⟩ (.int .i64 0)).setCell ⟨b2, 0, none⟩ (.int .i64 0) = w9 at *
      refine leaves_cons (f := 21) (args := #[.pointer (some ⟨b0, 0, none⟩), .pointer (some ⟨b1, 0, none⟩), .pointer (some ⟨b2, 0, none⟩)]) (by simp) (by simp [go_sem]) ?_
      refine (catch_idle _ _ _ _).mono ?_
      rintro e u' w'' ⟨rfl, rfl, rfl⟩
      obtain ⟨⟨c0, c1, c2⟩, _⟩ := HT9.out.cell
      refine ⟨.tuple #[.slice Al l.length cl, .int .i64 0, .int .i64 0], ?_, .inl ⟨l, HVV.out, _, rfl, ?_, HT9.out.below⟩⟩
      · simp [results, Tryz.results8, go_sem, c0, c1, c2]
      · have h0 := HT3S.out
        rw [HB.out]
        exact HR9.out.mono h0
    | cons t r1 =>
      have l2 : (t :: r1).length = r1.length + 1 := rfl
      have l3 : (0 : Int) < ((t :: r1).length : Nat) := by rw [l2]; omega
      by_cases hl2 : l.length = 200
      · have HVV : Hid (V = .error (2, t :: r1)) := by
          rw [← hv2, if_neg (by simp), if_pos (by rw [List.length_map]; exact hl2)]
          exact hide rfl
        have l4 : ((l.length : Nat) : Int) = 200 := by omega
        have HFL := hide (fail_any bp s.size 2 (t :: r1) wr HPR.out)
        clear hv2
        go_wp2_with fail
        refine HFL.out.mono ?_
        rintro _ w8 ⟨rfl, rfl⟩
        unfold fltE
        go_wp2_with fail
        refine leaves_cons (f := 21) (args := #[.pointer (some ⟨b0, 0, none⟩), .pointer (some ⟨b1, 0, none⟩), .pointer (some ⟨b2, 0, none⟩)]) (by simp) (by simp [go_sem]) ?_
        refine (catch_panicking b0 b1 b2 _ _ _ (errAt s.size (2, t :: r1)) [] _ d01 d02 d12 HTH.out.k0 HTH.out.k1 HTH.out.k2).mono ?_
        rintro e u' w'' ⟨rfl, rfl, r0, r1', r2, r3⟩
        have hbl := r3 _ _ HTH.out.below (by rw [HTH.out.e0]; exact Nat.le_refl _) (by rw [HTH.out.e1, HTH.out.e0]; omega) (by rw [HTH.out.e2, HTH.out.e1, HTH.out.e0]; omega)
        have g0 : w''.cell? ⟨b0, 0, none⟩ = some (.slice none 0 0) := cell_of_row w'' b0 0 _ _ _ r0
        have g1 : w''.cell? ⟨b1, 0, none⟩ = some (.int .i64 ((errAt s.size (2, t :: r1)).1 : Int)) := cell_of_row w'' b1 0 _ _ _ r1'
        have g2 : w''.cell? ⟨b2, 0, none⟩ = some (.int .i64 (errAt s.size (2, t :: r1)).2) := cell_of_row w'' b2 0 _ _ _ r2
        refine ⟨.tuple #[.slice none 0 0, .int .i64 ((errAt s.size (2, t :: r1)).1 : Int), .int .i64 (errAt s.size (2, t :: r1)).2], ?_, .inr ⟨_, HVV.out, rfl, hbl⟩⟩
        simp [results, Tryz.results8, go_sem, g0, g1, g2]
      · have hv3 : bnd (ruleR (t :: r1)) (fun p => rulesR f (l.map Prod.fst ++ [p.1]) p.2) = V := by
          rw [← hv2, if_neg (by simp), if_neg (by rw [List.length_map]; exact hl2)]
        have HV3 := hide hv3
        have l4 : ¬ ((l.length : Nat) : Int) = 200 := by omega
        have l5 : (((l.length : Nat) : Int) == 200) = false := beq_eq_false_iff_ne.2 l4
        have l6 : l.length < 200 := by omega
        have hpd := HPR.out.kept (below_grown (below_drewW wr) none) (fun x hx => by cases hx)
        clear hv2 hv3 hl2 hl
        cases hr : ruleR (t :: r1) with
        | error y =>
          have HVV : Hid (V = .error y) := by rw [← HV3.out, hr]; exact hide rfl
          have HRN := hide (rule_no bp s.size (t :: r1) wr.drew hpd HLT.out hr)
          clear hr HV3 hpd
          go_wp2_with fail
          refine wp_region_any (by kernel_rfl) ?_
          refine wpAny_inv (R9e [.string s, undef, .pointer (some ⟨b0, 0, none⟩), .pointer (some ⟨b1, 0, none⟩), .pointer (some ⟨b2, 0, none⟩), .slice A ts.length c, .pointer (some ⟨bp, 0, none⟩), .tuple #[.slice A ts.length c, .int .i64 0, .int .i64 off], .string s, .tuple #[.slice A ts.length c, .int .i64 0, .int .i64 off], .slice A ts.length c, .int .i64 0, .int .i64 off, .int .i64 0, .bool false, undef, undef, .func (Fn.func 21) #[] #[.pointer (some ⟨b0, 0, none⟩), .pointer (some ⟨b1, 0, none⟩), .pointer (some ⟨b2, 0, none⟩)], .slice A ts.length c, .string s, .int .i64 (s.size : Int), .agg #[.slice A ts.length c, .int .i64 (s.size : Int)], .pointer (some ⟨bp, 0, none⟩), .pointer (some ⟨bp, 0, none⟩), .pointer (some ⟨bp, 0, none⟩), .pointer (some ⟨bp, 0, none⟩), .slice Ar (r1.length + 1) cr, .int .i64 ((r1.length : Int) + 1), .bool true, .slice Al l.length cl, .int .i64 (l.length : Int), .bool false, u32, u33] [undef] [{ target := Target.fn (Fn.func 21) #[.pointer (some ⟨b0, 0, none⟩), .pointer (some ⟨b1, 0, none⟩), .pointer (some ⟨b2, 0, none⟩)], args := #[] }] (.slice Al l.length cl) (.pointer (some ⟨bp, 0, none⟩)) wr.drew) ?_ ?_ _ _ _ _ (by decide) ⟨false, false, _, _, _, _, _, rfl, rfl, rfl, (fun h => nomatch h), (fun h => nomatch h)⟩
          · intro listed a wx i hI hi
            obtain ⟨o0, o1, x34, x35, x36, x37, x38, rfl, rfl, rfl, q0, q1⟩ := hI
            rw [mem_ready] at hi
            obtain ⟨hl, op, hop, hall⟩ := hi
            have hi6 : i < 6 := by
              rcases Nat.lt_or_ge i 6 with g | g
              · exact g
              · rw [Array.getElem?_eq_none (by simpa using g)] at hop; cases hop
            rcases (by omega : i = 0 ∨ i = 1 ∨ i = 2 ∨ i = 3 ∨ i = 4 ∨ i = 5) with rfl | rfl | rfl | rfl | rfl | rfl
            all_goals (simp only [List.getElem?_toArray, List.getElem?_cons_zero, List.getElem?_cons_succ, Option.some.injEq] at hop; subst hop)
            · refine wpOp_run rfl rfl fun K hK => ?_
              unfold fr9
              simp only [List.cons_append, List.nil_append]
              go_simp
              exact hK _ _ ⟨true, o1, _, x35, x36, x37, x38, rfl, rfl, rfl, fun _ => rfl, q1⟩
            · refine wpOp_run rfl rfl fun K hK => ?_
              unfold fr9
              simp only [List.cons_append, List.nil_append]
              go_simp
              exact hK _ _ ⟨o0, true, x34, _, x36, x37, x38, rfl, rfl, rfl, q0, fun _ => rfl⟩
            · refine wpOp_run rfl rfl fun K hK => ?_
              have e1 := q1 (hall ⟨1, .data⟩ (by simp) rfl)
              subst e1
              unfold fr9
              simp only [List.cons_append, List.nil_append]
              go_simp
              refine HRN.out.mono ?_
              rintro _ w7 ⟨rfl, hg7⟩
              have HT7 := hide ((HTH.out.lift (below_drewW wr)).grown hg7 (fun x hx => by cases hx; exact HBP.out))
              clear hK hg7
              unfold fltE
              go_wp2_with fail
              refine leaves_cons (f := 21) (args := #[.pointer (some ⟨b0, 0, none⟩), .pointer (some ⟨b1, 0, none⟩), .pointer (some ⟨b2, 0, none⟩)]) (by simp) (by simp [go_sem]) ?_
              refine (catch_panicking b0 b1 b2 _ _ _ (errAt s.size y) [] _ d01 d02 d12 HT7.out.k0 HT7.out.k1 HT7.out.k2).mono ?_
              rintro e u' w'' ⟨rfl, rfl, r0, r1', r2, r3⟩
              have hbl := r3 _ _ HT7.out.below (by rw [HT7.out.e0]; exact Nat.le_refl _) (by rw [HT7.out.e1, HT7.out.e0]; omega) (by rw [HT7.out.e2, HT7.out.e1, HT7.out.e0]; omega)
              have g0 : w''.cell? ⟨b0, 0, none⟩ = some (.slice none 0 0) := cell_of_row w'' b0 0 _ _ _ r0
              have g1 : w''.cell? ⟨b1, 0, none⟩ = some (.int .i64 ((errAt s.size y).1 : Int)) := cell_of_row w'' b1 0 _ _ _ r1'
              have g2 : w''.cell? ⟨b2, 0, none⟩ = some (.int .i64 (errAt s.size y).2) := cell_of_row w'' b2 0 _ _ _ r2
              refine ⟨.tuple #[.slice none 0 0, .int .i64 ((errAt s.size y).1 : Int), .int .i64 (errAt s.size y).2], ?_, .inr ⟨_, HVV.out, rfl, hbl⟩⟩
              simp [results, Tryz.results8, go_sem, g0, g1, g2]
            · exact absurd (hall ⟨2, .data⟩ (by simp) rfl) (by simp)
            · exact absurd (hall ⟨3, .data⟩ (by simp) rfl) (by simp)
            · exact absurd (hall ⟨4, .data⟩ (by simp) rfl) (by simp)
          · intro listed a wx hI hr
            exfalso
            obtain ⟨o0, o1, x34, x35, x36, x37, x38, rfl, rfl, rfl, q0, q1⟩ := hI
            cases o1 with
            | false =>
              have h : (1 : Nat) ∈ ([] : List Nat) := by
                rw [← hr]
                exact mem_ready.2 ⟨rfl, _, rfl, fun e he _ => by simp at he⟩
              cases h
            | true =>
              have h : (2 : Nat) ∈ ([] : List Nat) := by
                rw [← hr]
                exact mem_ready.2 ⟨rfl, _, rfl, fun e he _ => by simp at he; subst he; rfl⟩
              cases h
        | ok p =>
          obtain ⟨x, r2⟩ := p
          have HV4 : Hid (rulesR f (l.map Prod.fst ++ [x]) r2 = V) := by rw [← HV3.out, hr]; exact hide rfl
          have HRO := hide (rule_ok bp s.size (t :: r1) wr.drew hpd HLT.out hr)
          have HL2 := hide (ruleR_sub hr HLT.out)
          have HTD := hide (HTH.out.lift (below_drewW wr))
          have HRD := hide (HRR.out.kept (below_grown (below_drewW wr) none) (fun x hx => by cases hx))
          clear hr HV3 hpd
          go_wp2_with fail
          refine wp_region_any (by kernel_rfl) ?_
          refine wpAny_inv (R9k [.string s, undef, .pointer (some ⟨b0, 0, none⟩), .pointer (some ⟨b1, 0, none⟩), .pointer (some ⟨b2, 0, none⟩), .slice A ts.length c, .pointer (some ⟨bp, 0, none⟩), .tuple #[.slice A ts.length c, .int .i64 0, .int .i64 off], .string s, .tuple #[.slice A ts.length c, .int .i64 0, .int .i64 off], .slice A ts.length c, .int .i64 0, .int .i64 off, .int .i64 0, .bool false, undef, undef, .func (Fn.func 21) #[] #[.pointer (some ⟨b0, 0, none⟩), .pointer (some ⟨b1, 0, none⟩), .pointer (some ⟨b2, 0, none⟩)], .slice A ts.length c, .string s, .int .i64 (s.size : Int), .agg #[.slice A ts.length c, .int .i64 (s.size : Int)], .pointer (some ⟨bp, 0, none⟩), .pointer (some ⟨bp, 0, none⟩), .pointer (some ⟨bp, 0, none⟩), .pointer (some ⟨bp, 0, none⟩), .slice Ar (r1.length + 1) cr, .int .i64 ((r1.length : Int) + 1), .bool true, .slice Al l.length cl, .int .i64 (l.length : Int), .bool false, u32, u33] [undef] [{ target := Target.fn (Fn.func 21) #[.pointer (some ⟨b0, 0, none⟩), .pointer (some ⟨b1, 0, none⟩), .pointer (some ⟨b2, 0, none⟩)], args := #[] }] w wr.drew b0 b1 b2 bp s.size w3.heap.size off r2 l Al cl x) ?_ ?_ _ _ _ _ (by decide) ⟨false, _, _, _, _, _, (fun h => nomatch h), rfl, .inl ⟨rfl, rfl⟩⟩
          · intro listed a wx i hI hi
            obtain ⟨o0, x34, x35, x36, x37, x38, q0, rfl, hst⟩ := hI
            rw [mem_ready] at hi
            obtain ⟨hl, op, hop, hall⟩ := hi
            have hi6 : i < 6 := by
              rcases Nat.lt_or_ge i 6 with g | g
              · exact g
              · rw [Array.getElem?_eq_none (by simpa using g)] at hop; cases hop
            rcases (by omega : i = 0 ∨ i = 1 ∨ i = 2 ∨ i = 3 ∨ i = 4 ∨ i = 5) with rfl | rfl | rfl | rfl | rfl | rfl
            all_goals (simp only [List.getElem?_toArray, List.getElem?_cons_zero, List.getElem?_cons_succ, Option.some.injEq] at hop; subst hop)
            · rcases hst with ⟨rfl, rfl⟩ | ⟨rfl, rfl, h35⟩ | ⟨rfl, A7, c7, h36, hva⟩ | ⟨rfl, A7, c7, w7, h37, hva, rfl⟩ | ⟨rfl, vv, g, cap, h38, hmd⟩ | ⟨rfl, vv, g, cap, hmd⟩
              · have hc := HTD.out.cell.1.1
                refine wpOp_run rfl rfl fun K hK => ?_
                unfold fr9
                simp only [List.cons_append, List.nil_append]
                go_simp
                exact hK _ _ ⟨true, _, x35, x36, x37, x38, fun _ => rfl, rfl, .inl ⟨rfl, rfl⟩⟩
              · have hc := HTD.out.cell.1.1
                have H35 := hide h35
                clear h35
                refine wpOp_run rfl rfl fun K hK => ?_
                unfold fr9
                simp only [List.cons_append, List.nil_append]
                go_simp
                exact hK _ _ ⟨true, _, x35, x36, x37, x38, fun _ => rfl, rfl, .inr (.inl ⟨rfl, rfl, H35.out⟩)⟩
              · have hc := (HTD.out.grown hva.grown (fun x hx => by cases hx; exact HBP.out)).cell.1.1
                have H36 := hide h36
                clear h36
                refine wpOp_run rfl rfl fun K hK => ?_
                unfold fr9
                simp only [List.cons_append, List.nil_append]
                go_simp
                exact hK _ _ ⟨true, _, x35, x36, x37, x38, fun _ => rfl, rfl, .inr (.inr (.inl ⟨rfl, A7, c7, H36.out, hva⟩))⟩
              · have hc := ((HTD.out.grown hva.grown (fun x hx => by cases hx; exact HBP.out)).lift ((Below.refl _ w7).alloc (Nat.le_refl _) (.cells #[.bool x.strict, .string x.area, .int .i64 x.kind, .string x.ik, .string x.iv, .int .i64 x.op, .string x.key, .slice A7 x.vals.length c7] 37))).cell.1.1
                refine wpOp_run rfl rfl fun K hK => ?_
                have H37 := hide h37
                clear h37
                generalize hwx : w7.alloc (.cells #[.bool x.strict, .string x.area, .int .i64 x.kind, .string x.ik, .string x.iv, .int .i64 x.op, .string x.key, .slice A7 x.vals.length c7] 37) = wy at *
                unfold fr9
                simp only [List.cons_append, List.nil_append]
                go_simp
                exact hK _ _ ⟨true, _, x35, x36, x37, x38, fun _ => rfl, rfl, .inr (.inr (.inr (.inl ⟨rfl, A7, c7, w7, H37.out, hva, hwx.symm⟩)))⟩
              · exact absurd hl (by simp)
              · exact absurd hl (by simp)
            · rcases hst with ⟨rfl, rfl⟩ | ⟨rfl, rfl, h35⟩ | ⟨rfl, A7, c7, h36, hva⟩ | ⟨rfl, A7, c7, w7, h37, hva, rfl⟩ | ⟨rfl, vv, g, cap, h38, hmd⟩ | ⟨rfl, vv, g, cap, hmd⟩
              · refine wpOp_run rfl rfl fun K hK => ?_
                unfold fr9
                simp only [List.cons_append, List.nil_append]
                go_simp
                exact hK _ _ ⟨o0, x34, _, x36, x37, x38, q0, rfl, .inr (.inl ⟨rfl, rfl, rfl⟩)⟩
              all_goals exact absurd hl (by simp)
            · rcases hst with ⟨rfl, rfl⟩ | ⟨rfl, rfl, h35⟩ | ⟨rfl, A7, c7, h36, hva⟩ | ⟨rfl, A7, c7, w7, h37, hva, rfl⟩ | ⟨rfl, vv, g, cap, h38, hmd⟩ | ⟨rfl, vv, g, cap, hmd⟩
              · exact absurd (hall ⟨1, .data⟩ (by simp) rfl) (by simp)
              · refine wpOp_run rfl rfl fun K hK => ?_
                subst h35
                unfold fr9
                simp only [List.cons_append, List.nil_append]
                go_simp
                refine HRO.out.mono ?_
                rintro _ w7 ⟨A7, c7, rfl, hva⟩
                exact hK _ _ ⟨o0, x34, _, _, x37, x38, q0, rfl, .inr (.inr (.inl ⟨rfl, A7, c7, rfl, hva⟩))⟩
              all_goals exact absurd hl (by simp)
            · rcases hst with ⟨rfl, rfl⟩ | ⟨rfl, rfl, h35⟩ | ⟨rfl, A7, c7, h36, hva⟩ | ⟨rfl, A7, c7, w7, h37, hva, rfl⟩ | ⟨rfl, vv, g, cap, h38, hmd⟩ | ⟨rfl, vv, g, cap, hmd⟩
              · exact absurd (hall ⟨2, .data⟩ (by simp) rfl) (by simp)
              · exact absurd (hall ⟨2, .data⟩ (by simp) rfl) (by simp)
              · refine wpOp_run rfl rfl fun K hK => ?_
                subst h36
                unfold fr9 vRl
                simp only [List.cons_append, List.nil_append]
                go_simp
                exact hK _ _ ⟨o0, x34, x35, _, _, x38, q0, rfl, .inr (.inr (.inr (.inl ⟨rfl, A7, c7, wx, rfl, hva, rfl⟩)))⟩
              all_goals exact absurd hl (by simp)
            · rcases hst with ⟨rfl, rfl⟩ | ⟨rfl, rfl, h35⟩ | ⟨rfl, A7, c7, h36, hva⟩ | ⟨rfl, A7, c7, w7, h37, hva, rfl⟩ | ⟨rfl, vv, g, cap, h38, hmd⟩ | ⟨rfl, vv, g, cap, hmd⟩
              · exact absurd (hall ⟨3, .data⟩ (by simp) rfl) (by simp)
              · exact absurd (hall ⟨3, .data⟩ (by simp) rfl) (by simp)
              · exact absurd (hall ⟨3, .data⟩ (by simp) rfl) (by simp)
              · refine wpOp_run rfl rfl fun K hK => ?_
                have e0 : o0 = true := hall ⟨0, .data⟩ (by simp) rfl
                have e34 := q0 e0
                subst e34 h37
                have hba : Below w7.heap.size w7 (w7.alloc (.cells #[.bool x.strict, .string x.area, .int .i64 x.kind, .string x.ik, .string x.iv, .int .i64 x.op, .string x.key, .slice A7 x.vals.length c7] 37)) := (Below.refl _ _).alloc (Nat.le_refl _) _
                have hr7 := (HRD.out.kept hva.grown (fun x hx => by cases hx; have := HW3.out; omega)).kept (below_grown hba none) (fun x hx => by cases hx)
                have hv7 := own_low (own_grown hva.row (below_grown hba none) (fun x hx => by cases hx)) HSZ.out
                have ht7 := (HTD.out.grown hva.grown (fun x hx => by cases hx; exact HBP.out)).lift hba
                have hp7 := hva.prs.kept (below_grown hba none) (fun x hx => by cases hx)
                have hs7 : w3.heap.size ≤ w7.heap.size := Nat.le_trans HSZ.out hva.grown.size
                refine wp_append_lies _ (.tmp 34) (.tmp 37) 22 rfl w3.heap.size 37 i0 (.agg #[.bool false, .string ⟨#[]⟩, .int .i64 0, .string ⟨#[]⟩, .string ⟨#[]⟩, .int .i64 0, .string ⟨#[]⟩, .slice none 0 0]) 8 112 Tryz.underlying22 HI.out HZ0.out HZ1.out HZ2.out rfl (by decide) (.slice Al l.length cl) l.length (cellsRs l) rfl hr7.row ⟨w7.heap.size, 0, none⟩ 1 1 (cellsRl (x, .slice A7 x.vals.length c7)) rfl rfl (fun j u hj => rnew_cells w7 (cellsRl (x, .slice A7 x.vals.length c7)) 37 j u hj) (fun u hu => by simp [cellsRl] at hu; rcases hu with rfl | rfl | rfl | rfl | rfl | rfl | rfl | rfl <;> rfl) (by decide) (by unfold maxLen; omega) (by omega) (by simp; omega) (w7.heap.size + 1) (by simp) ?_
                intro g9 cap w9 hown hgrow hat hlt
                have hblk : ∀ y, (Value.slice Al l.length cl).ownBlock = some y → w3.heap.size ≤ y := fun y hy => own_blk hr7.row hy
                refine hK _ _ ⟨true, _, _, _, _, _, fun _ => rfl, rfl, .inr (.inr (.inr (.inr (.inl ⟨by rw [e0]; rfl, .slice A7 x.vals.length c7, g9, cap, rfl, ?_⟩))))⟩
                have hmore := hr7.more (x := (x, .slice A7 x.vals.length c7)) hv7 hown hgrow
                have hlen : (l ++ [(x, (.slice A7 x.vals.length c7 : Value))]).length = l.length + 1 := by simp
                rw [hlen] at hmore
                exact ⟨hp7.kept hgrow (fun y hy => by have := hblk y hy; have := HW3.out; omega), ht7.grown hgrow (fun y hy => by have := hblk y hy; have := HW3.out; have := HBP.out; omega), hmore, Nat.le_trans hs7 (Nat.le_trans hba.size hgrow.size)⟩
              all_goals exact absurd hl (by simp)
            · rcases hst with ⟨rfl, rfl⟩ | ⟨rfl, rfl, h35⟩ | ⟨rfl, A7, c7, h36, hva⟩ | ⟨rfl, A7, c7, w7, h37, hva, rfl⟩ | ⟨rfl, vv, g, cap, h38, hmd⟩ | ⟨rfl, vv, g, cap, hmd⟩
              · exact absurd (hall ⟨4, .data⟩ (by simp) rfl) (by simp)
              · exact absurd (hall ⟨4, .data⟩ (by simp) rfl) (by simp)
              · exact absurd (hall ⟨4, .data⟩ (by simp) rfl) (by simp)
              · exact absurd (hall ⟨4, .data⟩ (by simp) rfl) (by simp)
              · refine wpOp_run rfl rfl fun K hK => ?_
                subst h38
                have hc := hmd.th.cell.1.1
                have hf := hmd.th.cell.2.1
                unfold fr9
                simp only [List.cons_append, List.nil_append]
                go_simp
                refine hK _ _ ⟨o0, x34, x35, x36, x37, _, q0, rfl, .inr (.inr (.inr (.inr (.inr ⟨rfl, vv, g, cap, ?_⟩))))⟩
                have hb0p : b0 < bp := by have := hmd.th.e1; have := hmd.th.e2; have := HBP.out; omega
                exact ⟨hmd.prs.far (set_grown wx b0 0 _) (by omega) hmd.th.k0, hmd.th.set0 _, hmd.rr.kept (set_grown wx b0 0 _) (fun y hy => by cases hy; have := HW3.out; omega), by simpa [World.setCell] using hmd.sz⟩
              · exact absurd hl (by simp)
          · intro listed a wx hI hr
            obtain ⟨o0, x34, x35, x36, x37, x38, q0, rfl, hst⟩ := hI
            rcases hst with ⟨rfl, rfl⟩ | ⟨rfl, rfl, h35⟩ | ⟨rfl, A7, c7, h36, hva⟩ | ⟨rfl, A7, c7, w7, h37, hva, rfl⟩ | ⟨rfl, vv, g, cap, h38, hmd⟩ | ⟨rfl, vv, g, cap, hmd⟩
            · have h : (1 : Nat) ∈ ([] : List Nat) := by
                rw [← hr]
                exact mem_ready.2 ⟨rfl, _, rfl, fun e he _ => by simp at he⟩
              cases h
            · have h : (2 : Nat) ∈ ([] : List Nat) := by
                rw [← hr]
                exact mem_ready.2 ⟨rfl, _, rfl, fun e he _ => by simp at he; subst he; rfl⟩
              cases h
            · have h : (3 : Nat) ∈ ([] : List Nat) := by
                rw [← hr]
                exact mem_ready.2 ⟨rfl, _, rfl, fun e he _ => by simp at he; subst he; rfl⟩
              cases h
            · cases o0 with
              | false =>
                have h : (0 : Nat) ∈ ([] : List Nat) := by
                  rw [← hr]
                  exact mem_ready.2 ⟨rfl, _, rfl, fun e he _ => by simp at he⟩
                cases h
              | true =>
                have h : (4 : Nat) ∈ ([] : List Nat) := by
                  rw [← hr]
                  exact mem_ready.2 ⟨rfl, _, rfl, fun e he _ => by simp at he; rcases he with h | h | h <;> (subst h; rfl)⟩
                cases h
            · have h : (5 : Nat) ∈ ([] : List Nat) := by
                rw [← hr]
                exact mem_ready.2 ⟨rfl, _, rfl, fun e he _ => by simp at he; rcases he with h | h | h | h | h | h | h <;> (subst h; rfl)⟩
              cases h
            · have HMD := hide hmd
              clear hmd hr q0
              unfold fr9
              simp only [List.cons_append, List.nil_append]
              go_wp2_with fail
              have hlen : (l ++ [(x, vv)]).length = l.length + 1 := by simp
              obtain ⟨A2, c2', hbk2, _⟩ := HMD.out.prs.cell
              have d2 : wx.cell? ⟨bp, 0, none⟩ = some (.slice A2 r2.length c2') := cell_of_row wx bp 0 _ _ _ hbk2
              refine ⟨⟨_, _, _, _, _, _, _, _, _, _, _, _, _, _, _, _, ⟨f, r2, l ++ [(x, vv)], some ⟨g, 0, none⟩, cap, hide (by have h1 := HF.out; have h2 := HL2.out.1; omega), hide HL2.out.2, by rw [hlen]; omega, (show Hid (rulesR f ((l ++ [(x, vv)]).map Prod.fst) r2 = V) from by rw [List.map_append]; exact HV4), hide HMD.out.prs, (show Hid (ThI w b0 b1 b2 (.slice (some ⟨g, 0, none⟩) (l ++ [(x, vv)]).length cap) (.int .i64 0) (.int .i64 off) wx) from by rw [hlen]; exact hide HMD.out.th), (show Hid (RrI w3.heap.size (l ++ [(x, vv)]) (.slice (some ⟨g, 0, none⟩) (l ++ [(x, vv)]).length cap) wx) from by rw [hlen]; exact hide HMD.out.rr), hide HMD.out.sz⟩, rfl⟩, ?_⟩
              rw [restLen_of d2, restLen_of d0]
              exact HL2.out.1
end Go.Proofs.YtoodmhlefaepaaaGreat
