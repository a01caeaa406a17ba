/-
  The reference's Lex, walked: it returns what the plain function 'lex' says, its tokens in memory of its own.
-/
import Derived.Test.YtoodmhlefaepaaaLexE
namespace Go.Proofs.Ytoodmhlefaepaaa
open Go.RowKit Go.Proofs.PlLex

def tokCells (t : Tok) : List Value := [.int .i64 (t.kind : Int), .string ⟨t.text.toArray⟩, .int .i64 (t.off : Int)]
def cellsL : List Tok → List Value
  | [] => []
  | t :: ts => tokCells t ++ cellsL ts
theorem cellsL_app (a b : List Tok) : cellsL (a ++ b) = cellsL a ++ cellsL b := by
  induction a with
  | nil => rfl
  | cons t a ih => simp only [List.cons_append, cellsL, ih, List.append_assoc]
theorem cellsL_len (a : List Tok) : (cellsL a).length = a.length * 3 := by
  induction a with
  | nil => rfl
  | cons t a ih => simp only [cellsL, List.length_append, ih, List.length_cons, tokCells, List.length_nil]; omega
theorem cellsL_get (a : List Tok) (i : Nat) (t : Tok) (h : a[i]? = some t) : (cellsL a)[i * 3]? = some (.int .i64 (t.kind : Int)) ∧ (cellsL a)[i * 3 + 1]? = some (.string ⟨t.text.toArray⟩) ∧ (cellsL a)[i * 3 + 2]? = some (.int .i64 (t.off : Int)) := by
  induction a generalizing i with
  | nil => simp at h
  | cons u a ih =>
    cases i with
    | zero =>
      simp only [List.getElem?_cons_zero, Option.some.injEq] at h
      subst h
      simp [cellsL, tokCells]
    | succ i =>
      simp only [List.getElem?_cons_succ] at h
      obtain ⟨h1, h2, h3⟩ := ih i h
      have e : ∀ j, (cellsL (u :: a))[3 + j]? = (cellsL a)[j]? := fun j => by
        simp only [cellsL, tokCells]
        rw [List.getElem?_append_right (by simp)]
        congr 1
        simp
      refine ⟨?_, ?_, ?_⟩
      · rw [show (i + 1) * 3 = 3 + i * 3 by omega, e]; exact h1
      · rw [show (i + 1) * 3 + 1 = 3 + (i * 3 + 1) by omega, e]; exact h2
      · rw [show (i + 1) * 3 + 2 = 3 + (i * 3 + 2) by omega, e]; exact h3

def OwnTok (w : World) (B : Nat) (v : Value) (ts : List Tok) : Prop := w.ownsRow B 96 3 v ts.length (cellsL ts)

theorem own_below {w w' : World} {B : Nat} {e : TypeId} {sz : Nat} {v : Value} {n : Nat} {xs : List Value} (h : w.ownsRow B e sz v n xs) (hb : Below w.heap.size w w') : w'.ownsRow B e sz v n xs := by
  obtain ⟨h1, h2⟩ := h
  refine ⟨h1, ?_⟩
  rcases h2 with h2 | ⟨g, cap, cur, hv, hg, hh, r⟩
  · exact .inl h2
  · have hlt : g < w.heap.size := by
      rcases Nat.lt_or_ge g w.heap.size with h3 | h3
      · exact h3
      · rw [Array.getElem?_eq_none h3] at hh; cases hh
    exact .inr ⟨g, cap, cur, hv, hg, (hb.block g hlt).trans hh, r⟩

theorem OwnTok.tokS {w : World} {B : Nat} {v : Value} {ts : List Tok} (h : OwnTok w B v ts) (hl : ts.length ≤ 1000000) (ho : ∀ t ∈ ts, t.off ≤ 1000000) : TokS w v ts := by
  refine ⟨hl, ?_⟩
  obtain ⟨h1, h2⟩ := h
  rcases h2 with ⟨rfl, h2⟩ | ⟨g, cap, cur, hv, hg, hh, hn, hcap, hcur, htake⟩
  · exact .inl ⟨List.eq_nil_of_length_eq_zero h2, none, 0, rfl⟩
  · refine .inr ⟨g, 0, cap, hv, ?_, ?_⟩
    · rcases Nat.lt_or_ge g w.heap.size with h3 | h3
      · exact h3
      · rw [Array.getElem?_eq_none h3] at hh; cases hh
    · intro i t ht
      have hi : i < ts.length := (List.getElem?_eq_some_iff.1 ht).1
      have hc : ∀ j u, j < ts.length * 3 → (cellsL ts)[j]? = some u → w.cell? ⟨g, 0 + j, none⟩ = some u := by
        intro j u hj hu
        rw [Nat.zero_add, cell_of_row w g j cur 96 (0, 0) hh]
        rw [← htake, List.getElem?_take_of_lt hj] at hu
        simpa using hu
      obtain ⟨e1, e2, e3⟩ := cellsL_get ts i t ht
      refine ⟨hc _ _ (by omega) e1, ?_, ?_, ho t (List.mem_of_getElem? ht)⟩
      · have := hc (i * 3 + 1) _ (by omega) e2
        rwa [show 0 + (i * 3 + 1) = 0 + i * 3 + 1 by omega] at this
      · have := hc (i * 3 + 2) _ (by omega) e3
        rwa [show 0 + (i * 3 + 2) = 0 + i * 3 + 2 by omega] at this

theorem info_tok : (Try.prog.info? 96).map (fun i => (i.zero, i.size, i.bytes)) = some (some (.agg #[.int .i64 0, .string ⟨#[]⟩, .int .i64 0]), 3, 32) := by kernel_rfl

theorem new_cells (w : World) (l : List Value) (t : TypeId) : ∀ (j : Nat) (u : Value), l[j]? = some u → (w.alloc (.cells l.toArray t)).cell? (Addr.add ⟨w.heap.size, 0, none⟩ j) = some u := by
  intro j u hj
  have e : Addr.add ⟨w.heap.size, 0, none⟩ j = ⟨w.heap.size, j, none⟩ := by
    unfold Addr.add
    split
    · rename_i h; rw [h]
    · simp
  rw [e, cell_of_row (w.alloc (.cells l.toArray t)) w.heap.size j l.toArray t (0, 0) (heap_alloc_new w _)]
  simpa using hj

/-! Gaps, once more: where a text's gaps end. -/
theorem gapF_split (b : Bool) (l : L) : ∃ b', gapE b (l.take (gapF b l)) = some b' ∧ (l.drop (gapF b l) = [] ∨ (b' = false ∧ ∃ c m, l.drop (gapF b l) = c :: m ∧ noGap c)) := by
  induction l generalizing b with
  | nil => exact ⟨b, by cases b <;> rfl, .inl (by simp)⟩
  | cons c l ih =>
    cases b with
    | true =>
      by_cases h : c = 10
      · subst h
        obtain ⟨b', h1, h2⟩ := ih false
        exact ⟨b', by simpa [gapF, gapE] using h1, by simpa [gapF] using h2⟩
      · have e1 : (c == 10) = false := by simpa using h
        have e2 : (c != 10) = true := by simpa using h
        obtain ⟨b', h1, h2⟩ := ih true
        exact ⟨b', by simpa [gapF, gapE, e1, e2] using h1, by simpa [gapF, e1] using h2⟩
    | false =>
      by_cases hb : isBlank c = true
      · obtain ⟨b', h1, h2⟩ := ih false
        exact ⟨b', by simpa [gapF, gapE, hb] using h1, by simpa [gapF, hb] using h2⟩
      · by_cases hc : (c == 35) = true
        · obtain ⟨b', h1, h2⟩ := ih true
          have e : gapF false (c :: l) = gapF true l + 1 := by simp only [gapF, hb, hc]; rfl
          rw [e]
          exact ⟨b', by simp only [List.take_succ_cons, gapE, hb, hc]; exact h1, by simpa using h2⟩
        · have e : gapF false (c :: l) = 0 := by simp only [gapF, hb, hc]; rfl
          rw [e]
          exact ⟨false, rfl, .inr ⟨rfl, c, l, rfl, by simpa using hb, by simpa using hc⟩⟩

theorem scan_gapF (off : Nat) (l : L) : scan 0 off l = scan 0 (off + gapF false l) (l.drop (gapF false l)) := by
  obtain ⟨b', h1, h2⟩ := gapF_split false l
  rcases h2 with h2 | ⟨rfl, c, m, h2, _⟩
  · have : l = l.take (gapF false l) := by
      have := List.take_append_drop (gapF false l) l
      rw [h2, List.append_nil] at this
      exact this.symm
    rw [h2, scan_nil]
    rw [this]
    exact scan_gaps off _ (by rw [← this]; rw [← this] at h1; rw [h1]; rfl)
  · have := scan_gap off (l.take (gapF false l)) (l.drop (gapF false l)) h1
    rw [List.take_append_drop] at this
    rw [this, List.length_take, Nat.min_eq_left (gapF_le _ _)]

/-- No gap begins here. -/
def atTok (l : L) : Prop := ∀ c m, l = c :: m → noGap c
theorem atTok_gap (l : L) : atTok (l.drop (gapF false l)) := by
  obtain ⟨b', h1, h2⟩ := gapF_split false l
  intro c m e
  rcases h2 with h2 | ⟨_, c', m', h2, h3⟩
  · rw [h2] at e; cases e
  · rw [h2] at e; cases e; exact h3

/-- What Lex returns, when the scan of the text is known. -/
theorem lex_of_none (l : L) (ts : List Tok) (h : l.length ≤ 20000) (hs : scan 0 0 l = (ts, none)) (ht : ts.length ≤ 5000) : lex l = (ts, 0, 0) := by
  unfold lex; rw [hs, if_neg (by omega), if_neg (by simp; omega)]
theorem lex_of_err (l : L) (ts : List Tok) (e n : Nat) (h : l.length ≤ 20000) (hs : scan 0 0 l = (ts, some (e, n))) (ht : ts.length ≤ 5000) : lex l = ([], e, (n : Int)) := by
  unfold lex; rw [hs, if_neg (by omega), if_neg (by simp; omega)]
theorem lex_of_many (l : L) (ts : List Tok) (t : Tok) (us : List Tok) (x : Option (Nat × Nat)) (h : l.length ≤ 20000) (hs : scan 0 0 l = (ts ++ t :: us, x)) (ht : ts.length = 5000) : lex l = ([], 2, (t.off : Int)) := by
  unfold lex; rw [hs, if_neg (by omega), if_pos (by simp; omega)]
  simp only
  rw [List.getElem?_append_right (by omega), ht]; rfl

def LexPost (B : Nat) (l : L) (w : World) (e : Ending) (w' : World) : Prop :=
  ∃ v, e = .returned (.tuple #[v, .int .i64 ((lex l).2.1 : Int), .int .i64 (lex l).2.2]) ∧ OwnTok w' B v (lex l).1 ∧ Below w.heap.size w w'

theorem next_pos (c : UInt8) (l : L) (k : Nat) (t : L) (n : Nat) (h : nextT c l = .ok (k, t, n)) : 1 ≤ n ∧ n ≤ l.length + 1 := by
  obtain ⟨r, h1, rfl, hv, _⟩ := nextT_ok c l k t n h
  refine ⟨wr_pos k t hv, ?_⟩
  have := congrArg List.length h1
  simp at this
  omega
