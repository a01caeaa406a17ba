/-
  The law of gaps, walked.
-/
import Derived.Test.YtoodmhlefaepaaaGreatRulQ
import Derived.Test.YtoodmhlefaepaaaGreatPlainF
import Derived.BigFrame
namespace Go.Proofs.YtoodmhlefaepaaaGreat
open Go.RowKit Go.Proofs.PlLex Go.Proofs.PlRule

theorem run_append_whole {P : Program} (w : World) (base : Nat) (t ty e : TypeId) (i : TypeInfo) (z : Value) (size bytes : Nat) (ht : P.underlying t = some (.slice e)) (hi : P.info? e = some i) (hz : i.zero = some z)
    (hsize : i.size = size) (hby : i.bytes = bytes) (hzs : z.cells.size = size) (hsz : 0 < size)
    (v : Value) (n : Nat) (xs : List Value) (hown : w.ownsRow base e size v n xs)
    (A : Option Addr) (m c : Nat) (news : List Value) (hl : news.length = m * size) (hnews : m = 0 ∨ ∃ ad, A = some ad ∧ ∀ j u, news[j]? = some u → w.cell? (ad.add j) = some u) (h1 : ∀ u ∈ news, u.oneCell' = true)
    (h63 : n + m ≤ maxLen) (hbytes : (n + m) * bytes ≤ 140737488355328) (hbase : base ≤ w.heap.size) :
    ∃ v' w', (Builtin.append_ #[t, t] ty #[v, .slice A m c]).run P w = .ok v' w' ∧ w'.ownsRow base e size v' (n + m) (xs ++ news) ∧ w.grownBy w' v.ownBlock := by
  cases A with
  | some ad =>
    have hn : ∀ j u, news[j]? = some u → w.cell? (ad.add j) = some u := by
      rcases hnews with h | ⟨ad', e, h⟩
      · subst h
        rw [Nat.zero_mul] at hl
        rw [List.length_eq_zero_iff.1 hl]
        intro j u h
        simp at h
      · cases e; exact h
    obtain ⟨v', w', h2, h3, h4, _⟩ := run_append_own (P := P) w base t ty e i z size bytes ht hi hz hsize hby hzs hsz v n xs hown ad m c news hl hn h1 h63 hbytes hbase
    exact ⟨v', w', h2, h3, h4⟩
  | none =>
    obtain rfl : m = 0 := by
      rcases hnews with h | ⟨ad', e, h⟩
      · exact h
      · cases e
    rw [Nat.zero_mul] at hl
    rw [List.length_eq_zero_iff.1 hl, List.append_nil]
    refine ⟨v, w, ?_, hown, grown_refl _ _⟩
    rcases hown.2 with ⟨rfl, rfl⟩ | ⟨g, cap, cur, rfl, _, _, hnc, _⟩
    · simp [Builtin.append_, run_underlying ht, sizeOf, typeInfo, hi, Builtin.lenOf, Builtin.firstCells]
    · simp [Builtin.append_, run_underlying ht, sizeOf, typeInfo, hi, Builtin.lenOf, Builtin.firstCells, hnc, storeCells]
theorem wantList_append {P : Program} {w : World} {ops : Array Oper} {rest : List Oper} {o : Oper} {a : Act} {Q : Exit → Act → World → Prop} (hw : Region.wanted o (yielded ops a.tmps) = true) (s x : Operand) (t : TypeId)
    (ho : o.op = .call { callee := .builtin .append, args := #[s, x], argTypes := #[t, t] })
    (base : Nat) (e : TypeId) (i : TypeInfo) (z : Value) (size bytes : Nat) (ht : P.underlying t = some (.slice e)) (hi : P.info? e = some i) (hz : i.zero = some z)
    (hsize : i.size = size) (hby : i.bytes = bytes) (hzs : z.cells.size = size) (hsz : 0 < size)
    (v : Value) (n : Nat) (xs : List Value) (hs : a.eval s = v) (hown : w.ownsRow base e size v n xs)
    (A : Option Addr) (m c : Nat) (news : List Value) (hx : a.eval x = .slice A m c) (hl : news.length = m * size) (hnews : m = 0 ∨ ∃ ad, A = some ad ∧ ∀ j u, news[j]? = some u → w.cell? (ad.add j) = some u) (h1 : ∀ u ∈ news, u.oneCell' = true)
    (h63 : n + m ≤ maxLen) (hbytes : (n + m) * bytes ≤ 140737488355328) (hbase : base ≤ w.heap.size)
    (h : ∀ v' w', w'.ownsRow base e size v' (n + m) (xs ++ news) → w.grownBy w' v.ownBlock → wpList P ops Q rest (a.put o.dst v') w') : wpList P ops Q (o :: rest) a w := by
  refine BigFrame.wpList_want hw fun _ hK => ?_
  obtain ⟨v', w', hr, h2, h3⟩ := run_append_whole (P := P) w base t o.type e i z size bytes ht hi hz hsize hby hzs hsz v n xs hown A m c news hl hnews h1 h63 hbytes hbase
  unfold Oper.wp execOp
  simp only [ho, resolve, invoke, builtin, Sem.run_bind, Sem.run_pure, Result.andThen_ok, List.map_toArray, List.map_cons, List.map_nil, hs, hx, hr]
  exact hK _ _ (h v' w' h2 h3)
theorem cellsRs_len (l : List (Rl × Value)) : (cellsRs l).length = l.length * 8 := by
  induction l with
  | nil => rfl
  | cons x l ih =>
    have : (cellsRl x).length = 8 := rfl
    rw [cellsRs, List.length_append, ih, List.length_cons]
    omega
theorem rlo_pairs {W : World} {g : Nat} (L : List Rl) : ∀ o, RlO W g o L → ∃ ps : List (Rl × Value), ps.map Prod.fst = L ∧ (∀ x ∈ ps, StS W x.2 x.1.vals) ∧ ∀ j u, (cellsRs ps)[j]? = some u → W.cell? ⟨g, o + j, none⟩ = some u := by
  induction L with
  | nil => intro o _; exact ⟨[], rfl, (fun _ h => nomatch h), fun j u h => by simp [cellsRs] at h⟩
  | cons x L ih =>
    intro o h
    obtain ⟨vv, hx⟩ := h 0 x rfl
    rw [Nat.zero_mul, Nat.add_zero] at hx
    obtain ⟨ps, h1, h2, h3⟩ := ih (o + 8) (fun i y hy => by
      have := h (i + 1) y hy
      rw [show o + (i + 1) * 8 = o + 8 + i * 8 by omega] at this
      exact this)
    refine ⟨(x, vv) :: ps, by rw [List.map_cons, h1], fun y hy => ?_, fun j u hj => ?_⟩
    · rcases List.mem_cons.1 hy with rfl | hy
      · exact hx.vals
      · exact h2 y hy
    · have hl : (cellsRl (x, vv)).length = 8 := rfl
      rw [cellsRs] at hj
      by_cases h8 : j < 8
      · rw [List.getElem?_append_left (by omega)] at hj
        obtain ⟨c0, c1, c2, c3, c4, c5, c6, c7, _⟩ := hx
        obtain rfl | rfl | rfl | rfl | rfl | rfl | rfl | rfl : j = 0 ∨ j = 1 ∨ j = 2 ∨ j = 3 ∨ j = 4 ∨ j = 5 ∨ j = 6 ∨ j = 7 := by omega
        all_goals (simp only [cellsRl, List.getElem?_cons_zero, List.getElem?_cons_succ, Option.some.injEq] at hj; subst hj; assumption)
      · rw [List.getElem?_append_right (by omega), hl] at hj
        have := h3 (j - 8) u hj
        rw [show o + 8 + (j - 8) = o + j by omega] at this
        exact this
theorem addr_more (g o j : Nat) : (⟨g, o, none⟩ : Addr).add j = ⟨g, o + j, none⟩ := by
  simp only [Addr.add]
  split <;> simp_all
/-- Rules that lie somewhere, as pairs of the rule and its slice of values. -/
theorem rls_pairs {W : World} {A : Option Addr} {n c : Nat} {L : List Rl} (h : RlS W (.slice A n c) L) : n = L.length ∧ ∃ ps : List (Rl × Value), ps.map Prod.fst = L ∧ (∀ x ∈ ps, StS W x.2 x.1.vals) ∧ (L.length = 0 ∨ ∃ ad, A = some ad ∧ ad.block < W.heap.size ∧ ∀ j u, (cellsRs ps)[j]? = some u → W.cell? (ad.add j) = some u) := by
  obtain ⟨A', c', he, _, h⟩ := h
  cases he
  refine ⟨rfl, ?_⟩
  rcases h with rfl | ⟨g, o, rfl, hg, hp⟩
  · exact ⟨[], rfl, (fun _ h => nomatch h), .inl rfl⟩
  · obtain ⟨ps, h1, h2, h3⟩ := rlo_pairs L o hp
    exact ⟨ps, h1, h2, .inr ⟨_, rfl, hg, fun j u hj => by rw [addr_more]; exact h3 j u hj⟩⟩
theorem rls_of_row {B : Nat} {l : List (Rl × Value)} {v : Value} {W : World} (h : W.ownsRow B 37 8 v l.length (cellsRs l)) (hv : ∀ x ∈ l, StS W x.2 x.1.vals) : RlS W v (l.map Prod.fst) := by
  have hlen : (l.map Prod.fst).length = l.length := by simp
  rcases h.2 with ⟨rfl, h0⟩ | ⟨g, cap, cur, rfl, hg, hh, hc, _⟩
  · exact ⟨none, 0, by rw [hlen, h0], by omega, .inl (by simp [List.length_eq_zero_iff.1 h0])⟩
  · refine ⟨some ⟨g, 0, none⟩, cap, by rw [hlen], by omega, .inr ⟨g, 0, rfl, lt_of_blk hh, fun i y hy => ?_⟩⟩
    rw [List.getElem?_map] at hy
    obtain ⟨x, hx, rfl⟩ := Option.map_eq_some_iff.1 hy
    have key : ∀ j u, j < 8 → (cellsRl x)[j]? = some u → W.cell? ⟨g, 0 + i * 8 + j, none⟩ = some u := by
      intro j u hj hu
      have := World.ownsRow.cells h (g := g) rfl (i * 8 + j) u (by rw [cellsRs_get l i x hx j hj, hu])
      rw [addr_add] at this
      rw [Nat.zero_add]
      exact this
    exact ⟨x.2, key 0 _ (by omega) rfl, key 1 _ (by omega) rfl, key 2 _ (by omega) rfl, key 3 _ (by omega) rfl, key 4 _ (by omega) rfl, key 5 _ (by omega) rfl, key 6 _ (by omega) rfl, key 7 _ (by omega) rfl, hv x (List.mem_of_getElem? hx)⟩
theorem cellsRs_one {l : List (Rl × Value)} {W : World} (hv : ∀ x ∈ l, StS W x.2 x.1.vals) : ∀ u ∈ cellsRs l, u.oneCell' = true := by
  induction l with
  | nil => intro u hu; cases hu
  | cons x l ih =>
    intro u hu
    rw [cellsRs] at hu
    rcases List.mem_append.1 hu with hu | hu
    · obtain ⟨A, c, he, _⟩ := hv x (List.mem_cons_self ..)
      simp only [cellsRl, List.mem_cons, List.not_mem_nil, or_false] at hu
      rcases hu with rfl | rfl | rfl | rfl | rfl | rfl | rfl | rfl
      all_goals (first | rfl | (rw [he]; rfl))
    · exact ih (fun y hy => hv y (List.mem_cons_of_mem _ hy)) u hu
theorem tx_app (a b : BA) : tx (a ++ b) = tx a ++ tx b := app_data a b
theorem parse_bnd (s : BA) (hs : s.size ≤ 5000) : 0 ≤ (parseL (tx s)).2.2 ∧ (parseL (tx s)).2.2 ≤ 1000000 := by
  have := parse_off (l := tx s) (N := 1000000) (show s.size ≤ 1000000 by omega) hs (lex_offs (tx s)).2
  exact ⟨this.1, by have := this.2; omega⟩
theorem parse_vals {l : L} : ∀ x ∈ (parseL l).1, x.vals.length ≤ 1000000 := by
  intro x hx
  by_cases h : (parseL l).2.1 = 0
  · obtain ⟨xs, _, _, e, hg, _, _⟩ := parse_good h
    rw [e] at hx
    have := gd_many (hg x hx)
    omega
  · rw [parse_none h] at hx
    cases hx
theorem parse_few {l : L} : (parseL l).1.length ≤ 200 := by
  by_cases h : (parseL l).2.1 = 0
  · obtain ⟨xs, _, _, e, _, _, h5⟩ := parse_good h
    rw [e]
    exact h5
  · rw [parse_none h]
    exact Nat.zero_le _
end Go.Proofs.YtoodmhlefaepaaaGreat
