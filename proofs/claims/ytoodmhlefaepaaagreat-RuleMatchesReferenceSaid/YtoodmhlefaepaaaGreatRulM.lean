/-
  Parse, as a whole.
-/
import Derived.Test.YtoodmhlefaepaaaGreatRulE
import Derived.Test.YtoodmhlefaepaaaGreatRulL
namespace Go.Proofs.YtoodmhlefaepaaaGreat
open Go.RowKit Go.Proofs.PlLex Go.Proofs.PlRule

theorem addr_add (g j : Nat) : (⟨g, 0, none⟩ : Addr).add j = ⟨g, j, none⟩ := by
  simp only [Addr.add, Nat.zero_add]
  split <;> simp_all
theorem own_strs {w : World} {B : Nat} {v : Value} {l : List ByteArray} (h : w.ownsRow B 9 1 v l.length (l.map .string)) : StS w v l := by
  rcases h.2 with ⟨rfl, h0⟩ | ⟨g, cap, cur, rfl, hg, hh, hc, _⟩
  · exact ⟨none, 0, by rw [h0], by omega, .inl (List.length_eq_zero_iff.1 h0)⟩
  · refine ⟨some ⟨g, 0, none⟩, cap, rfl, hc, .inr ⟨g, 0, rfl, lt_of_blk hh, fun i s hs => ?_⟩⟩
    have := World.ownsRow.cells h (g := g) rfl i (.string s) (by rw [List.getElem?_map, hs]; rfl)
    rw [addr_add] at this
    rw [Nat.zero_add]
    exact this
theorem cellsRs_get (l : List (Rl × Value)) (i : Nat) (x : Rl × Value) (h : l[i]? = some x) (j : Nat) (hj : j < 8) : (cellsRs l)[i * 8 + j]? = (cellsRl x)[j]? := by
  induction l generalizing i with
  | nil => simp at h
  | cons y l ih =>
    have hlen : (cellsRl y).length = 8 := rfl
    cases i with
    | zero =>
      simp only [List.getElem?_cons_zero, Option.some.injEq] at h
      subst h
      rw [cellsRs, List.getElem?_append_left (by omega)]
      simp
    | succ i =>
      rw [List.getElem?_cons_succ] at h
      rw [cellsRs, List.getElem?_append_right (by omega), hlen, ← ih i h]
      congr 1
      omega
theorem rr_rls {B : Nat} {l : List (Rl × Value)} {v : Value} {W : World} (h : RrI B l v W) : RlS W v (l.map Prod.fst) := by
  have hlen : (l.map Prod.fst).length = l.length := by simp
  rcases h.row.2 with ⟨rfl, h0⟩ | ⟨g, cap, cur, rfl, hg, hh, hc, _⟩
  · exact ⟨none, 0, by rw [hlen, h0], by omega, .inl (by simp [List.length_eq_zero_iff.1 h0])⟩
  · refine ⟨some ⟨g, 0, none⟩, cap, by rw [hlen], by omega, .inr ⟨g, 0, rfl, lt_of_blk hh, fun i y hy => ?_⟩⟩
    rw [List.getElem?_map] at hy
    obtain ⟨x, hx, rfl⟩ := Option.map_eq_some_iff.1 hy
    have key : ∀ j u, j < 8 → (cellsRl x)[j]? = some u → W.cell? ⟨g, 0 + i * 8 + j, none⟩ = some u := by
      intro j u hj hu
      have := World.ownsRow.cells h.row (g := g) rfl (i * 8 + j) u (by rw [cellsRs_get l i x hx j hj, hu])
      rw [addr_add] at this
      rw [Nat.zero_add]
      exact this
    exact ⟨x.2, key 0 _ (by omega) rfl, key 1 _ (by omega) rfl, key 2 _ (by omega) rfl, key 3 _ (by omega) rfl, key 4 _ (by omega) rfl, key 5 _ (by omega) rfl, key 6 _ (by omega) rfl, key 7 _ (by omega) rfl, own_strs (h.vals x (List.mem_of_getElem? hx))⟩
theorem RlS.nil (W : World) : RlS W (.slice none 0 0) [] := ⟨none, 0, rfl, Nat.le_refl _, .inl rfl⟩
theorem parse_any (s : BA) (w : World) (hs : s.size ≤ 1000000) :
    Calls Tryz.prog 8 #[.string s] w fun e w' => ∃ v, e = .returned (.tuple #[v, .int .i64 ((parseL (tx s)).2.1 : Int), .int .i64 (parseL (tx s)).2.2]) ∧ RlS w' v (parseL (tx s)).1 ∧ Below w.heap.size w w' := by
  have hz : (tx s).length = s.size := rfl
  obtain ⟨P, hP⟩ : ∃ P, parseL (tx s) = P := ⟨_, rfl⟩
  rw [hP]
  unfold parseL at hP
  by_cases he : (lex (tx s)).2.1 = 0
  · rw [if_pos he] at hP
    obtain ⟨ts, off, hlx⟩ : ∃ ts off, lex (tx s) = (ts, 0, off) := ⟨_, _, by rw [← he]⟩
    rw [hlx] at hP
    refine (parse_run s w hs ts off hlx _ rfl).mono ?_
    rintro e w' (⟨l, v, h1, h2, h3, h4⟩ | ⟨x, h1, h2, h4⟩)
    · simp only [h1] at hP
      subst hP
      exact ⟨v, h2, rr_rls h3, h4⟩
    · simp only [h1] at hP
      subst hP
      exact ⟨_, h2, RlS.nil _, h4⟩
  · rw [if_neg he] at hP
    subst hP
    refine (parse_err s w hs he).mono ?_
    rintro e w' ⟨h1, h2⟩
    exact ⟨_, h1, RlS.nil _, h2⟩
end Go.Proofs.YtoodmhlefaepaaaGreat
