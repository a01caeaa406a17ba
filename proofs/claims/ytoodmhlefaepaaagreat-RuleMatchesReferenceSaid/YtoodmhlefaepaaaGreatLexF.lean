/-
  The reference's Lex, walked: it returns what the plain function 'lex' says, its tokens in memory of its own.
-/
import Derived.Test.YtoodmhlefaepaaaGreatLexE
namespace Go.Proofs.YtoodmhlefaepaaaGreat
open Go.RowKit Go.Proofs.PlLex

def tokCells (t : Tok) : List Value := [.int .i64 (t.kind : Int), .string ⟨t.text.toArray⟩, .int .i64 (t.off : Int)]
def cellsL : List Tok → List Value
  | [] => []
  | t :: ts => tokCells t ++ cellsL ts
theorem cellsL_app (a b : List Tok) : cellsL (a ++ b) = cellsL a ++ cellsL b := by
  induction a with
  | nil => rfl
  | cons t a ih => simp only [List.cons_append, cellsL, ih, List.append_assoc]
theorem cellsL_len (a : List Tok) : (cellsL a).length = a.length * 3 := by
  induction a with
  | nil => rfl
  | cons t a ih => simp only [cellsL, List.length_append, ih, List.length_cons, tokCells, List.length_nil]; omega
theorem cellsL_get (a : List Tok) (i : Nat) (t : Tok) (h : a[i]? = some t) : (cellsL a)[i * 3]? = some (.int .i64 (t.kind : Int)) ∧ (cellsL a)[i * 3 + 1]? = some (.string ⟨t.text.toArray⟩) ∧ (cellsL a)[i * 3 + 2]? = some (.int .i64 (t.off : Int)) := by
  induction a generalizing i with
  | nil => simp at h
  | cons u a ih =>
    cases i with
    | zero =>
      simp only [List.getElem?_cons_zero, Option.some.injEq] at h
      subst h
      simp [cellsL, tokCells]
    | succ i =>
      simp only [List.getElem?_cons_succ] at h
      obtain ⟨h1, h2, h3⟩ := ih i h
      have e : ∀ j, (cellsL (u :: a))[3 + j]? = (cellsL a)[j]? := fun j => by
        simp only [cellsL, tokCells]
        rw [List.getElem?_append_right (by simp)]
        congr 1
        simp
      refine ⟨?_, ?_, ?_⟩
      · rw [show (i + 1) * 3 = 3 + i * 3 by omega, e]; exact h1
      · rw [show (i + 1) * 3 + 1 = 3 + (i * 3 + 1) by omega, e]; exact h2
      · rw [show (i + 1) * 3 + 2 = 3 + (i * 3 + 2) by omega, e]; exact h3

def OwnTok (w : World) (B : Nat) (v : Value) (ts : List Tok) : Prop := w.ownsRow B 98 3 v ts.length (cellsL ts)

theorem own_below {w w' : World} {B : Nat} {e : TypeId} {sz : Nat} {v : Value} {n : Nat} {xs : List Value} (h : w.ownsRow B e sz v n xs) (hb : Below w.heap.size w w') : w'.ownsRow B e sz v n xs := by
  obtain ⟨h1, h2⟩ := h
  refine ⟨h1, ?_⟩
  rcases h2 with h2 | ⟨g, cap, cur, hv, hg, hh, r⟩
  · exact .inl h2
  · have hlt : g < w.heap.size := by
      rcases Nat.lt_or_ge g w.heap.size with h3 | h3
      · exact h3
      · rw [Array.getElem?_eq_none h3] at hh; cases hh
    exact .inr ⟨g, cap, cur, hv, hg, (hb.block g hlt).trans hh, r⟩

theorem OwnTok.tokS {w : World} {B : Nat} {v : Value} {ts : List Tok} (h : OwnTok w B v ts) (hl : ts.length ≤ 1000000) (ho : ∀ t ∈ ts, t.off ≤ 1000000) : TokS w v ts := by
  refine ⟨hl, ?_⟩
  obtain ⟨h1, h2⟩ := h
  rcases h2 with ⟨rfl, h2⟩ | ⟨g, cap, cur, hv, hg, hh, hn, hcap, hcur, htake⟩
  · exact .inl ⟨List.eq_nil_of_length_eq_zero h2, none, 0, rfl⟩
  · refine .inr ⟨g, 0, cap, hv, ?_, ?_⟩
    · rcases Nat.lt_or_ge g w.heap.size with h3 | h3
      · exact h3
      · rw [Array.getElem?_eq_none h3] at hh; cases hh
    · intro i t ht
      have hi : i < ts.length := (List.getElem?_eq_some_iff.1 ht).1
      have hc : ∀ j u, j < ts.length * 3 → (cellsL ts)[j]? = some u → w.cell? ⟨g, 0 + j, none⟩ = some u := by
        intro j u hj hu
        rw [Nat.zero_add, cell_of_row w g j cur 98 (0, 0) hh]
        rw [← htake, List.getElem?_take_of_lt hj] at hu
        simpa using hu
      obtain ⟨e1, e2, e3⟩ := cellsL_get ts i t ht
      refine ⟨hc _ _ (by omega) e1, ?_, ?_, ho t (List.mem_of_getElem? ht)⟩
      · have := hc (i * 3 + 1) _ (by omega) e2
        rwa [show 0 + (i * 3 + 1) = 0 + i * 3 + 1 by omega] at this
      · have := hc (i * 3 + 2) _ (by omega) e3
        rwa [show 0 + (i * 3 + 2) = 0 + i * 3 + 2 by omega] at this

theorem info_tok : (Tryz.prog.info? 98).map (fun i => (i.zero, i.size, i.bytes)) = some (some (.agg #[.int .i64 0, .string ⟨#[]⟩, .int .i64 0]), 3, 32) := by kernel_rfl

theorem new_cells (w : World) (l : List Value) (t : TypeId) : ∀ (j : Nat) (u : Value), l[j]? = some u → (w.alloc (.cells l.toArray t)).cell? (Addr.add ⟨w.heap.size, 0, none⟩ j) = some u := by
  intro j u hj
  have e : Addr.add ⟨w.heap.size, 0, none⟩ j = ⟨w.heap.size, j, none⟩ := by
    unfold Addr.add
    split
    · rename_i h; rw [h]
    · simp
  rw [e, cell_of_row (w.alloc (.cells l.toArray t)) w.heap.size j l.toArray t (0, 0) (heap_alloc_new w _)]
  simpa using hj

/-! Gaps, once more: where a text's gaps end. -/
theorem gapF_split (b : Bool) (l : L) : ∃ b', gapE b (l.take (gapF b l)) = some b' ∧ (l.drop (gapF b l) = [] ∨ (b' = false ∧ ∃ c m, l.drop (gapF b l) = c :: m ∧ noGap c)) := by
  induction l generalizing b with
  | nil => exact ⟨b, by cases b <;> rfl, .inl (by simp)⟩
  | cons c l ih =>
    cases b with
    | true =>
      by_cases h : c = 10
      · subst h
        obtain ⟨b', h1, h2⟩ := ih false
        exact ⟨b', by simpa [gapF, gapE] using h1, by simpa [gapF] using h2⟩
      · have e1 : (c == 10) = false := by simpa using h
        have e2 : (c != 10) = true := by simpa using h
        obtain ⟨b', h1, h2⟩ := ih true
        exact ⟨b', by simpa [gapF, gapE, e1, e2] using h1, by simpa [gapF, e1] using h2⟩
    | false =>
      by_cases hb : isBlank c = true
      · obtain ⟨b', h1, h2⟩ := ih false
        exact ⟨b', by simpa [gapF, gapE, hb] using h1, by simpa [gapF, hb] using h2⟩
      · by_cases hc : (c == 35) = true
        · obtain ⟨b', h1, h2⟩ := ih true
          have e : gapF false (c :: l) = gapF true l + 1 := by simp only [gapF, hb, hc]; rfl
          rw [e]
          exact ⟨b', by simp only [List.take_succ_cons, gapE, hb, hc]; exact h1, by simpa using h2⟩
        · have e : gapF false (c :: l) = 0 := by simp only [gapF, hb, hc]; rfl
          rw [e]
          exact ⟨false, rfl, .inr ⟨rfl, c, l, rfl, by simpa using hb, by simpa using hc⟩⟩

theorem scan_gapF (off : Nat) (l : L) : scan 0 off l = scan 0 (off + gapF false l) (l.drop (gapF false l)) := by
  obtain ⟨b', h1, h2⟩ := gapF_split false l
  rcases h2 with h2 | ⟨rfl, c, m, h2, _⟩
  · have : l = l.take (gapF false l) := by
      have := List.take_append_drop (gapF false l) l
      rw [h2, List.append_nil] at this
      exact this.symm
    rw [h2, scan_nil]
    rw [this]
    exact scan_gaps off _ (by rw [← this]; rw [← this] at h1; rw [h1]; rfl)
  · have := scan_gap off (l.take (gapF false l)) (l.drop (gapF false l)) h1
    rw [List.take_append_drop] at this
    rw [this, List.length_take, Nat.min_eq_left (gapF_le _ _)]

/-- No gap begins here. -/
def atTok (l : L) : Prop := ∀ c m, l = c :: m → noGap c
theorem atTok_gap (l : L) : atTok (l.drop (gapF false l)) := by
  obtain ⟨b', h1, h2⟩ := gapF_split false l
  intro c m e
  rcases h2 with h2 | ⟨_, c', m', h2, h3⟩
  · rw [h2] at e; cases e
  · rw [h2] at e; cases e; exact h3

/-- What Lex returns, when the scan of the text is known. -/
theorem lex_of_none (l : L) (ts : List Tok) (h : l.length ≤ 20000) (hs : scan 0 0 l = (ts, none)) (ht : ts.length ≤ 5000) : lex l = (ts, 0, 0) := by
  unfold lex; rw [hs, if_neg (by omega), if_neg (by simp; omega)]
theorem lex_of_err (l : L) (ts : List Tok) (e n : Nat) (h : l.length ≤ 20000) (hs : scan 0 0 l = (ts, some (e, n))) (ht : ts.length ≤ 5000) : lex l = ([], e, (n : Int)) := by
  unfold lex; rw [hs, if_neg (by omega), if_neg (by simp; omega)]
theorem lex_of_many (l : L) (ts : List Tok) (t : Tok) (us : List Tok) (x : Option (Nat × Nat)) (h : l.length ≤ 20000) (hs : scan 0 0 l = (ts ++ t :: us, x)) (ht : ts.length = 5000) : lex l = ([], 2, (t.off : Int)) := by
  unfold lex; rw [hs, if_neg (by omega), if_pos (by simp; omega)]
  simp only
  rw [List.getElem?_append_right (by omega), ht]; rfl

def LexPost (B : Nat) (l : L) (w : World) (e : Ending) (w' : World) : Prop :=
  ∃ v, e = .returned (.tuple #[v, .int .i64 ((lex l).2.1 : Int), .int .i64 (lex l).2.2]) ∧ OwnTok w' B v (lex l).1 ∧ Below w.heap.size w w'

theorem next_pos (c : UInt8) (l : L) (k : Nat) (t : L) (n : Nat) (h : nextT c l = .ok (k, t, n)) : 1 ≤ n ∧ n ≤ l.length + 1 := by
  obtain ⟨r, h1, rfl, hv, _⟩ := nextT_ok c l k t n h
  refine ⟨wr_pos k t hv, ?_⟩
  have := congrArg List.length h1
  simp at this
  omega

set_option maxRecDepth 100000 in
set_option maxHeartbeats 2000000 in
theorem rlex_any (s : ByteArray) (w : World) (hs : s.size ≤ 1000000) :
    Calls Tryz.prog 24 #[.string s] w (LexPost w.heap.size s.data.toList w) := by
  have hgap := fun k w hk => gap_any s k w (by unfold maxLen; omega) hk
  have HG := hide hgap
  clear hgap
  by_cases h2 : s.size ≤ 20000
  · obtain ⟨i0, hi, hz0, hz1, hz2⟩ := info_parts info_tok
    have HI := hide hi; have HZ0 := hide hz0; have HZ1 := hide hz1; have HZ2 := hide hz2
    clear hi hz0 hz1 hz2
    go_enter Tryz.func24, Tryz.ntmps24
    go_wp2_with (go_at_call 47; refine (HG.out 0 _ (Nat.zero_le _)).mono ?_; rintro e w' ⟨rfl, rfl⟩)
    go_loopw [5, 6] (fun o i wr => ∃ (ts : List Tok) (k : Nat), wr.ownsRow w.heap.size 98 3 o ts.length (cellsL ts) ∧ i = .int .i64 k ∧ k ≤ s.size ∧ ts.length ≤ 5000 ∧ Below w.heap.size w wr ∧
        Hid (scan 0 0 s.data.toList = (ts ++ (scan 0 k (s.data.toList.drop k)).1, (scan 0 k (s.data.toList.drop k)).2)) ∧ Hid (atTok (s.data.toList.drop k))) (fun _ i _ => s.size - (intOf i).toNat)
    case atStart =>
      refine ⟨[], gapF false s.data.toList, World.ownsRow_nil _ _ _ _, by simp, gapF_le _ _, Nat.zero_le _, Below.refl _ _, ?_, atTok_gap _⟩
      show _ = _
      have := scan_gapF 0 s.data.toList
      rw [Nat.zero_add] at this
      rw [this]; rfl
    case round =>
      obtain ⟨ts, k, hown, rfl, hk, ht, hb, hrel, hat⟩ := hrel
      by_cases hlt : k < s.size
      · have HD := hide (drop_cons s k hlt)
        have hc : noGap s[k] := hat.out _ _ HD.out
        have HC := hide hc
        clear hc hat
        have hn := fun w => rnext_any s k w hs hlt
        cases hx : nextT s[k] (s.data.toList.drop (k + 1)) with
        | error er =>
          have HX := hide hx
          rw [hx] at hn
          have HN := hide hn
          clear hn hx
          have hpos : (er : Int) ≠ 0 := by
            have := nextT_err_pos _ _ _ HX.out
            omega
          have hpos' : ((er : Int) != 0) = true := by rw [bne_iff_ne]; exact hpos
          go_wp2_with (go_at_call 48; refine (HN.out _).mono ?_; rintro e w' ⟨rfl, hbn⟩; simp only [nextEnd])
          go_ret3
          have hl := lex_of_err s.data.toList ts er k (by rw [size_list]; exact h2) (by
            rw [hrel.out, HD.out, scan_err k _ _ HC.out HX.out]; simp) ht
          exact ⟨.slice none 0 0, by rw [hl]; rfl, by rw [hl]; exact World.ownsRow_nil _ _ _ _, (hb.trans (hbn.mono hb.size)).alloc (Nat.le_trans hb.size hbn.size) _⟩
        | ok x =>
          obtain ⟨kd, tx, nn⟩ := x
          have HX := hide hx
          rw [hx] at hn
          have HN := hide hn
          clear hn hx
          obtain ⟨np1, np2⟩ := next_pos _ _ _ _ _ HX.out
          have hstep : Hid (scan 0 0 s.data.toList = (ts ++ ⟨kd, tx, k⟩ :: (scan 0 (k + nn) (s.data.toList.drop (k + nn))).1, (scan 0 (k + nn) (s.data.toList.drop (k + nn))).2)) := by
            show _ = _
            have := hrel.out
            rw [HD.out, scan_tok k _ _ HC.out np1 HX.out, ← HD.out, List.drop_drop] at this
            exact this
          have hkn : k + nn ≤ s.size := by
            rw [List.length_drop, size_list] at np2
            omega
          clear np2 hrel
          by_cases h5 : ts.length = 5000
          · have hl := lex_of_many s.data.toList ts ⟨kd, tx, k⟩ _ _ (by rw [size_list]; exact h2) hstep.out h5
            have HL := hide hl
            have h5' : ((ts.length : Int) == 5000) = true := by rw [beq_iff_eq]; omega
            have hv : ∃ A c, u5 = .slice A ts.length c := by
              rcases hown.2 with ⟨rfl, h0⟩ | ⟨g, cap, cur, rfl, _⟩
              · exact ⟨none, 0, by rw [h0]⟩
              · exact ⟨_, _, rfl⟩
            obtain ⟨A, c, rfl⟩ := hv
            clear hl h5 hown
            go_wp2_with (go_at_call 48; refine (HN.out _).mono ?_; rintro e w' ⟨rfl, hbn⟩; simp only [nextEnd])
            go_ret3
            exact ⟨.slice none 0 0, by rw [HL.out]; rfl, by rw [HL.out]; exact World.ownsRow_nil _ _ _ _, (hb.trans (hbn.mono hb.size)).alloc (Nat.le_trans hb.size hbn.size) _⟩
          · have h5' : ((ts.length : Int) == 5000) = false := by rw [beq_eq_false_iff_ne]; omega
            have h5'' : (ts.length == 5000) = false := by simpa using h5
            have hv : ∃ A c, u5 = .slice A ts.length c := by
              rcases hown.2 with ⟨rfl, h0⟩ | ⟨g, cap, cur, rfl, _⟩
              · exact ⟨none, 0, by rw [h0]⟩
              · exact ⟨_, _, rfl⟩
            obtain ⟨A, c, rfl⟩ := hv
            have hg2 := HG.out (k + nn)
            have HG2 := hide hg2
            have ht' : ts.length < 5000 := by omega
            clear h5 hg2
            go_wp2_with (first
              | (go_at_call 48; refine (HN.out _).mono ?_; rintro e w' ⟨rfl, hbn⟩; simp only [nextEnd])
              | (at_builtin; go_must (refine wpList_append_own _ rfl (.tmp 34) (.tmp 36) 61 rfl w.heap.size 98 i0 (.agg #[.int .i64 0, .string ⟨#[]⟩, .int .i64 0]) 3 32 Tryz.underlying61 HI.out HZ0.out HZ1.out HZ2.out rfl (by decide) (.slice A ts.length c) ts.length (cellsL ts) rfl ?c0 ⟨w'.heap.size + 1, 0, none⟩ 1 1 (tokCells ⟨kd, tx, k⟩) rfl rfl ?c1 ?c2 ?c3 ?c4 ?c5 ?_)))
            case c0 => exact own_below hown ((hbn.alloc hbn.size _).alloc (by have := hbn.size; simp; omega) _)
            case c1 =>
              intro j u hj
              have := new_cells (w'.alloc (.cells #[.int .i64 (kd : Int), .string ⟨tx.toArray⟩, .int .i64 (k : Int)] 98)) (tokCells ⟨kd, tx, k⟩) 98 j u hj
              simp only [World.size_alloc] at this
              exact this
            case c2 => intro u hu; simp [tokCells] at hu; rcases hu with rfl | rfl | rfl <;> rfl
            case c3 => unfold maxLen; omega
            case c4 => omega
            case c5 => have := hb.size; have := hbn.size; simp; omega
            · intro v' w1 hown' hgrow _
              have hb1 : Below w.heap.size w w1 := by
                refine ((((hb.trans (hbn.mono hb.size)).alloc (Nat.le_trans hb.size hbn.size) _).alloc (by have := hb.size; have := hbn.size; simp; omega) _).grown hgrow (by have := hb.size; have := hbn.size; simp; omega) ?_)
                intro g hg
                rcases hown.2 with ⟨h0, _⟩ | ⟨g', cap, cur, h0, h1, _⟩
                · rw [h0] at hg; cases hg
                · rw [h0] at hg; cases hg; exact h1
              have hown1 : w1.ownsRow w.heap.size 98 3 v' (ts ++ [(⟨kd, tx, k⟩ : Tok)]).length (cellsL (ts ++ [⟨kd, tx, k⟩])) := by
                rw [cellsL_app, List.length_append]
                exact hown'
              clear hown' hgrow hown hb hbn
              go_wp2_with (go_at_call 47; refine (HG2.out _ hkn).mono ?_; rintro e w' ⟨rfl, rfl⟩)
              go_roundw
              case rel =>
                refine ⟨ts ++ [⟨kd, tx, k⟩], k + nn + gapF false (s.data.toList.drop (k + nn)), hown1, by go_num, ?_, by simp; omega, hb1, ?_, ?_⟩
                · have := gapF_le false (s.data.toList.drop (k + nn))
                  rw [List.length_drop, size_list] at this
                  omega
                · show _ = _
                  rw [hstep.out, scan_gapF (k + nn), List.drop_drop]
                  simp
                · show atTok _
                  rw [← List.drop_drop]
                  exact atTok_gap _
              case measure =>
                have := gapF_le false (s.data.toList.drop (k + nn))
                rw [List.length_drop, size_list] at this
                simp [intOf]; omega
      · have hl := lex_of_none s.data.toList ts (by rw [size_list]; exact h2) (by
          rw [hrel.out, drop_end s k hlt]; simp [scan_nil]) ht
        have HL := hide hl
        clear hl
        go_wp2_with fail
        go_ret3
        exact ⟨u5, by rw [HL.out]; rfl, by rw [HL.out]; exact hown, hb⟩
  · go_enter Tryz.func24, Tryz.ntmps24
    go_wp2_with fail
    go_ret3
    have hl : lex s.data.toList = ([], 2, -1) := by unfold lex; rw [if_pos (by rw [size_list]; omega)]
    exact ⟨.slice none 0 0, by rw [hl]; rfl, by rw [hl]; exact World.ownsRow_nil _ _ _ _, Below.refl _ _⟩
