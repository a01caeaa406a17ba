/-
  The reference's reader of tokens, walked: its small methods.
-/
import Derived.Test.YtoodmhlefaepaaaGreatRulC
import Derived.Test.YtoodmhlefaepaaaGreatNetF
import Derived.Test.YtoodmhlefaepaaaGreatPlainG
import Derived.BigQuiet
import Derived.Deep.QuietTactic
import Derived.StillTailTactics
namespace Go.Proofs.YtoodmhlefaepaaaGreat
open Go.RowKit Go.Proofs.PlLex Go.Proofs.PlRule

set_option maxRecDepth 100000 in
set_option maxHeartbeats 4000000 in
theorem gvalue_any (s : ByteArray) (w : World) (hs : s.size ≤ maxLen) : Calls Tryz.prog 59 #[.string s] w fun e w' => e = .returned (.bool (valueB s)) ∧ w' = w := by
  obtain ⟨V, hV⟩ : ∃ V, valueB s = V := ⟨_, rfl⟩
  rw [hV]
  unfold maxLen at hs
  unfold valueB at hV
  by_cases h0 : s.size = 0
  · have e : s = ⟨#[]⟩ := by
      cases s with
      | mk d =>
        have : d = #[] := Array.eq_empty_of_size_eq_zero h0
        rw [this]
    subst e
    have HV : Hid (V = false) := by rw [← hV]; exact hide rfl
    clear hV h0 hs
    go_enter Tryz.func59, Tryz.ntmps59
    go_wp2_with fail
    go_ret
    exact ⟨ret_b HV.out.symm, rfl⟩
  · have e0 : (1 : Int) ≤ (s.size : Int) := by omega
    have e1 : ¬ s.toList = [] := fun e => by
      have := PlNet.toList_inj.1 (show s.toList = (⟨#[]⟩ : ByteArray).toList by rw [e]; simp)
      subst this
      exact h0 rfl
    have e2 : s.toList.isEmpty = false := by
      cases h : s.toList with
      | nil => exact absurd h e1
      | cons _ _ => rfl
    by_cases h2 : s.size ≤ 200
    · have HV : Hid (V = true) := by rw [← hV]; exact hide (by simp [h0, h2])
      have h3 : (s.size : Int) ≤ 200 := by omega
      clear hV h0 h2
      go_enter Tryz.func59, Tryz.ntmps59
      go_wp2_with fail
      go_ret
      exact ⟨ret_b (by rw [HV.out]), rfl⟩
    · have HV : Hid (V = false) := by rw [← hV]; exact hide (by simp [h2])
      have h3 : ¬ (s.size : Int) ≤ 200 := by omega
      clear hV h0 h2
      go_enter Tryz.func59, Tryz.ntmps59
      go_wp2_with fail
      go_ret
      exact ⟨ret_b HV.out.symm, rfl⟩
/-- What the reader's cells say of its state. -/
def StA (ts : List Tok) : Rst → Nat → Nat → Int → Prop
  | .ok r, i, e, _ => e = 0 ∧ ts.drop i = r
  | .error x, _, e, a => e = x.1 ∧ a = x.2 ∧ e ≠ 0
/-- The reader. -/
structure RdI (b n : Nat) (ts : List Tok) (st : Rst) (W : World) : Prop where
  cell : ∃ A c i e a, W.heap[b]? = some (.cells #[.slice A ts.length c, .int .i64 ((i : Nat) : Int), .int .i64 (n : Int), .int .i64 ((e : Nat) : Int), .int .i64 a] 74 (0, 0)) ∧ (ts = [] ∨ ∃ g o, A = some ⟨g, o, none⟩ ∧ g < b ∧ TokAt W g o ts) ∧ i ≤ ts.length ∧ StA ts st i e a
  few : ts.length ≤ 1000000
  size : n ≤ 1000000
theorem RdI.lt {b n : Nat} {ts : List Tok} {st : Rst} {w : World} (h : RdI b n ts st w) : b < w.heap.size := by
  obtain ⟨A, c, i, e, a, hbk, _⟩ := h.cell
  exact lt_of_blk hbk
theorem TokAt.grown2 {w w' : World} {row : Option Nat} (hk : w.grownBy w' row) {g o : Nat} {ts : List Tok} (ht : TokAt w g o ts) (hg : g < w.heap.size) (hr : row ≠ some g) : TokAt w' g o ts := by
  intro i t hi
  have key := fun j => cell_grown hk (g := g) hg hr j
  obtain ⟨h1, h2, h3, h4⟩ := ht i t hi
  exact ⟨(key _).trans h1, (key _).trans h2, (key _).trans h3, h4⟩
theorem RdI.kept {b n : Nat} {ts : List Tok} {st : Rst} {w w' : World} {row : Option Nat} (h : RdI b n ts st w) (hk : w.grownBy w' row) (hr : ∀ x, row = some x → b < x) : RdI b n ts st w' := by
  obtain ⟨A, c, i, e, a, hbk, hA, hi, hs⟩ := h.cell
  have hlt := lt_of_blk hbk
  refine ⟨⟨A, c, i, e, a, (hk.block b hlt (fun e => by have := hr b e.symm; omega)).trans hbk, ?_, hi, hs⟩, h.few, h.size⟩
  rcases hA with hA | ⟨g, o, hA, hg, ht⟩
  · exact .inl hA
  · exact .inr ⟨g, o, hA, hg, ht.grown2 hk (by omega) (fun e => by have := hr g e; omega)⟩
/-- The reader's block alone has changed. -/
theorem RdI.set {b n : Nat} {ts : List Tok} {st : Rst} {w w' : World} (hf : ts.length ≤ 1000000) (hn : n ≤ 1000000) {A : Option Addr} {c i e : Nat} {a : Int} (hb : w'.heap[b]? = some (.cells #[.slice A ts.length c, .int .i64 ((i : Nat) : Int), .int .i64 (n : Int), .int .i64 ((e : Nat) : Int), .int .i64 a] 74 (0, 0)))
    (hA : ts = [] ∨ ∃ g o, A = some ⟨g, o, none⟩ ∧ g < b ∧ TokAt w g o ts) (hlt : b < w.heap.size) (hg : w.grownBy w' (some b)) (hi : i ≤ ts.length) (hs : StA ts st i e a) : RdI b n ts st w' := by
  refine ⟨⟨A, c, i, e, a, hb, ?_, hi, hs⟩, hf, hn⟩
  rcases hA with hA | ⟨g, o, hA, hgb, ht⟩
  · exact .inl hA
  · exact .inr ⟨g, o, hA, hgb, ht.grown2 hg (by omega) (fun e => by cases e; omega)⟩
def Drn (w : World) (_ : Unit) : World := w.drew
theorem below_drewX (w : World) : Below w.heap.size w w.drew := (Below.refl _ _).drew
theorem wp_region_quietV {P : Program} {id : Nat} {Q : Exit → Act → World → Prop} {a : Act} {w : World} {l : List Oper} {J : Type} (W : J → World) (u : J) (hu : w.drew = W u) (hm : P.follows .mixedOrders = true) (hB : Region.lexB .any l.toArray = true)
    (h : wpQuiet P l.toArray (fun w' => ∃ u, w' = W u) (fun a' => ∀ w', (∃ u, w' = W u) → Q .normal a' w') l a) : (Code.region id l.toArray true).wp P Q a w :=
  wp_region_quiet (C := fun w' => ∃ u, w' = W u) hm hB ⟨u, hu⟩ (by simpa using h)
theorem drop_at {ts : List Tok} {i : Nat} {t : Tok} {r : List Tok} (h : ts.drop i = t :: r) : i < ts.length ∧ ts[i]? = some t ∧ ts.drop (i + 1) = r := by
  have hl : i < ts.length := by
    rcases Nat.lt_or_ge i ts.length with h2 | h2
    · exact h2
    · rw [List.drop_eq_nil_of_le h2] at h; cases h
  have h1 := List.drop_eq_getElem_cons hl
  rw [h1] at h
  cases h
  exact ⟨hl, List.getElem?_eq_getElem hl, rfl⟩
set_option maxRecDepth 100000 in
set_option maxHeartbeats 4000000 in
theorem is_any (b n k : Nat) (s : L) (ts : List Tok) (st : Rst) (w : World) (h : RdI b n ts st w) :
    Calls Tryz.prog 52 #[.pointer (some ⟨b, 0, none⟩), .int .i64 (k : Int), .string (ba s)] w fun e w' => e = .returned (.bool (isS k s st)) ∧ RdI b n ts st w' ∧ w.grownBy w' (some b) := by
  have HP : Hid (RdI b n ts st (Drn w ()) ∧ w.grownBy (Drn w ()) (some b)) := hide ⟨h.kept (below_grown (below_drewX w) none) (fun x hx => by cases hx), below_grown (below_drewX w) _⟩
  obtain ⟨A, c, i, e, a, hbk, hA, hi, hs⟩ := h.cell
  have hfew := h.few
  have D0 : ∀ u, (Drn w u).cell? ⟨b, 0, none⟩ = some (.slice A ts.length c) := fun _ => cell_of_row w b 0 _ _ _ hbk
  have D1 : ∀ u, (Drn w u).cell? ⟨b, 1, none⟩ = some (.int .i64 (i : Int)) := fun _ => cell_of_row w b 1 _ _ _ hbk
  have D3 : ∀ u, (Drn w u).cell? ⟨b, 3, none⟩ = some (.int .i64 (e : Int)) := fun _ => cell_of_row w b 3 _ _ _ hbk
  have YN : Nonempty Unit := ⟨()⟩
  clear hbk h
  cases st with
  | error x =>
    have h0 : e ≠ 0 := hs.2.2
    have e1 : ¬ ((e : Nat) : Int) = 0 := by omega
    have e2 : (((e : Nat) : Int) == 0) = false := beq_eq_false_iff_ne.2 e1
    clear hs h0 hA hi
    go_enter Tryz.func52, Tryz.ntmps52
    go_wp2_with fail
    refine wp_region_quietV (J := Unit) (Drn w) () rfl (by kernel_rfl) (by kernel_rfl) ?_
    repeat (go_big_quiet_step (fail))
    refine wpQuiet_nil ?_
    rintro w9 ⟨u, rfl⟩
    go_wp2_with fail
    go_ret
    exact ⟨rfl, HP.out⟩
  | ok r =>
    obtain ⟨rfl, hd⟩ := hs
    cases r with
    | nil =>
      have hl : ¬ ((i : Nat) : Int) < (ts.length : Nat) := by
        have := List.drop_eq_nil_iff.1 hd
        omega
      have hdn : decide (i < ts.length) = false := decide_eq_false (by omega)
      clear hd hA hi
      go_enter Tryz.func52, Tryz.ntmps52
      go_wp2_with fail
      refine wp_region_quietV (J := Unit) (Drn w) () rfl (by kernel_rfl) (by kernel_rfl) ?_
      repeat (go_big_quiet_step (fail))
      refine wpQuiet_nil ?_
      rintro w9 ⟨u, rfl⟩
      go_wp2_with fail
      go_ret
      exact ⟨rfl, HP.out⟩
    | cons t r =>
      obtain ⟨hlt, hti, _⟩ := drop_at hd
      obtain ⟨g, o, rfl, hg, ht⟩ := hA.resolve_left (by rintro rfl; simp at hlt)
      obtain ⟨c0, c1, _, _⟩ := ht i t hti
      have C0 : ∀ u, (Drn w u).cell? ⟨g, o + i * 3, none⟩ = some (.int .i64 (t.kind : Int)) := fun _ => c0
      have C1 : ∀ u, (Drn w u).cell? ⟨g, o + i * 3 + 1, none⟩ = some (.string ⟨t.text.toArray⟩) := fun _ => c1
      have hl : ((i : Nat) : Int) < (ts.length : Nat) := by omega
      have hdn : decide (i < ts.length) = true := decide_eq_true hlt
      have h0 : (0 : Int) ≤ ((i : Nat) : Int) := by omega
      have HX : isS k s (.ok (t :: r)) = (decide (t.kind = k) && decide (t.text = s)) := by
        show (acceptT k s (t :: r)).isSome = _
        rw [acceptT_cons]
        by_cases h1 : t.kind = k <;> by_cases h2 : t.text = s <;> simp [h1, h2]
      have HX := hide HX
      clear hd hti hlt ht hi c0 c1 hg
      by_cases hk : t.kind = k
      · have k1 : ((t.kind : Int) = (k : Int)) := by omega
        have k2 : ((t.kind : Int) == (k : Int)) = true := by rw [k1]; simp
        by_cases hs : t.text = s
        · have HR : Hid (isS k s (.ok (t :: r)) = true) := by rw [HX.out, decide_eq_true hk, decide_eq_true hs]; exact hide rfl
          have s1 : (t.text == (ba s).toList) = true := by rw [hs, tl_ba]; simp
          clear hs hk HX
          go_enter Tryz.func52, Tryz.ntmps52
          go_wp2_with fail
          refine wp_region_quietV (J := Unit) (Drn w) () rfl (by kernel_rfl) (by kernel_rfl) ?_
          repeat (go_big_quiet_step (fail))
          refine wpQuiet_nil ?_
          rintro w9 ⟨u, rfl⟩
          go_wp2_with fail
          go_ret
          exact ⟨ret_b HR.out.symm, HP.out⟩
        · have HR : Hid (isS k s (.ok (t :: r)) = false) := by rw [HX.out, decide_eq_false hs, Bool.and_false]; exact hide rfl
          have s1 : (t.text == (ba s).toList) = false := by
            rw [tl_ba, beq_eq_false_iff_ne]
            exact hs
          clear hs hk HX
          go_enter Tryz.func52, Tryz.ntmps52
          go_wp2_with fail
          refine wp_region_quietV (J := Unit) (Drn w) () rfl (by kernel_rfl) (by kernel_rfl) ?_
          repeat (go_big_quiet_step (fail))
          refine wpQuiet_nil ?_
          rintro w9 ⟨u, rfl⟩
          go_wp2_with fail
          go_ret
          exact ⟨ret_b HR.out.symm, HP.out⟩
      · have HR : Hid (isS k s (.ok (t :: r)) = false) := by rw [HX.out, decide_eq_false hk, Bool.false_and]; exact hide rfl
        have k1 : ¬ ((t.kind : Int) = (k : Int)) := by omega
        have k2 : ((t.kind : Int) == (k : Int)) = false := beq_eq_false_iff_ne.2 k1
        have k3 : (t.kind == k) = false := by simpa using hk
        clear hk HX
        go_enter Tryz.func52, Tryz.ntmps52
        go_wp2_with fail
        refine wp_region_quietV (J := Unit) (Drn w) () rfl (by kernel_rfl) (by kernel_rfl) ?_
        repeat (go_big_quiet_step (fail))
        refine wpQuiet_nil ?_
        rintro w9 ⟨u, rfl⟩
        go_wp2_with fail
        go_ret
        exact ⟨ret_b HR.out.symm, HP.out⟩
/-! The reference's reader of tokens, walked: how it notes an error, and takes a token. -/

theorem errAt_ne {n e : Nat} {r : List Tok} (he : e ≠ 0) : (errAt n (e, r)).1 ≠ 0 := by
  cases r with
  | nil => show (6 : Nat) ≠ 0; decide
  | cons t r => exact he
theorem two_set {w : World} {b : Nat} {a0 a1 a2 a3 a4 : Value} {t : TypeId} (h : w.heap[b]? = some (.cells #[a0, a1, a2, a3, a4] t (0, 0))) (x y : Value) :
    ((w.setCell ⟨b, 3, none⟩ x).setCell ⟨b, 4, none⟩ y).heap[b]? = some (.cells #[a0, a1, a2, x, y] t (0, 0)) ∧ w.grownBy ((w.setCell ⟨b, 3, none⟩ x).setCell ⟨b, 4, none⟩ y) (some b) :=
  ⟨set_blk (set_blk h 3 x) 4 y, grown_trans (set_grown w b 3 x) (set_grown _ b 4 y)⟩
theorem blk5 {w : World} {g : Nat} {a b c d e : Value} {t : TypeId} (h : w.heap[g]? = some (.cells #[a, b, c, d, e] t (0, 0))) :
    w.cell? ⟨g, 0, none⟩ = some a ∧ w.cell? ⟨g, 1, none⟩ = some b ∧ w.cell? ⟨g, 2, none⟩ = some c ∧ w.cell? ⟨g, 3, none⟩ = some d ∧ w.cell? ⟨g, 4, none⟩ = some e ∧ ∀ j, w.frozen? ⟨g, j, none⟩ = false :=
  ⟨cell_of_row w g 0 _ t _ h, cell_of_row w g 1 _ t _ h, cell_of_row w g 2 _ t _ h, cell_of_row w g 3 _ t _ h, cell_of_row w g 4 _ t _ h, fun j => by simp [World.frozen?, h]⟩
set_option maxRecDepth 100000 in
set_option maxHeartbeats 4000000 in
theorem gfail_any (b n e : Nat) (ts : List Tok) (st : Rst) (w : World) (h : RdI b n ts st w) (he : e ≠ 0) (h5 : st = .ok [] → e = 5) :
    Calls Tryz.prog 25 #[.pointer (some ⟨b, 0, none⟩), .int .i64 (e : Int)] w fun en w' => en = .returned (.tuple #[]) ∧ RdI b n ts (failS n e st) w' ∧ w.grownBy w' (some b) := by
  have HP : Hid (RdI b n ts st w) := hide h
  obtain ⟨A, c, i, e0, a, hbk, hA, hi, hs⟩ := h.cell
  obtain ⟨d0, d1, d2, d3, d4, fz⟩ := blk5 hbk
  cases st with
  | error x =>
    have h0 : e0 ≠ 0 := hs.2.2
    have e1 : ¬ ((e0 : Nat) : Int) = 0 := by omega
    have e2 : (((e0 : Nat) : Int) == 0) = false := beq_eq_false_iff_ne.2 e1
    clear hs h0 hA hi hbk h he h5
    go_enter Tryz.func25, Tryz.ntmps25
    go_wp2_with fail
    exact bodyPost_ret (v := .tuple #[]) (by simp [results, Tryz.f25, go_sem]) rfl ⟨rfl, HP.out, grown_refl _ _⟩
  | ok r =>
    obtain ⟨rfl, hd⟩ := hs
    have hfew := h.few
    have hsz := h.size
    have hlt := lt_of_blk hbk
    obtain ⟨hb2, hg2⟩ := two_set hbk (.int .i64 (e : Int)) (.int .i64 (n : Int))
    obtain ⟨k0, k1, k2, k3, k4, fz2⟩ := blk5 hb2
    have HD := hide hd
    have HB := hide hb2
    have HG := hide hg2
    have HE := hide he
    clear hb2 hg2 hbk h he hd
    go_enter Tryz.func25, Tryz.ntmps25
    go_wp2_with fail
    generalize (w.setCell _ _).setCell _ _ = W2 at *
    clear d0 d1 d2 d3 d4 fz
    have D0 : ∀ u, (Drn W2 u).cell? ⟨b, 0, none⟩ = some (.slice A ts.length c) := fun _ => k0
    have D1 : ∀ u, (Drn W2 u).cell? ⟨b, 1, none⟩ = some (.int .i64 (i : Int)) := fun _ => k1
    have YN : Nonempty Unit := ⟨()⟩
    refine wp_region_quietV (J := Unit) (Drn W2) () rfl (by kernel_rfl) (by kernel_rfl) ?_
    repeat (go_big_quiet_step (fail))
    refine wpQuiet_nil ?_
    rintro w9 ⟨u, rfl⟩
    have hB3 : (Drn W2 u).heap[b]? = some (.cells #[.slice A ts.length c, .int .i64 (i : Int), .int .i64 (n : Int), .int .i64 (e : Int), .int .i64 (n : Int)] 74 (0, 0)) := HB.out
    have hG3 : w.grownBy (Drn W2 u) (some b) := grown_trans HG.out (below_grown (below_drewX W2) _)
    clear k0 k1 k2 k3 k4 fz2 HB HG D0 D1 YN
    generalize Drn W2 u = W3 at *
    clear W2 u
    obtain ⟨k0, k1, k2, k3, k4, fz2⟩ := blk5 hB3
    have HB := hide hB3
    have HG := hide hG3
    clear hB3 hG3
    cases r with
    | nil =>
      have e5 : e = 5 := h5 rfl
      subst e5
      have hle : ts.length ≤ i := by have := List.drop_eq_nil_iff.1 HD.out; omega
      have hl : ¬ ((i : Nat) : Int) < (ts.length : Nat) := by omega
      have HF : Hid (RdI b n ts (failS n 5 (.ok [])) (W3.setCell ⟨b, 3, none⟩ (.int .i64 6)) ∧ w.grownBy (W3.setCell ⟨b, 3, none⟩ (.int .i64 6)) (some b)) := by
        have hg := grown_trans HG.out (set_grown W3 b 3 (.int .i64 6))
        exact hide ⟨RdI.set hfew hsz (i := i) (e := 6) (a := n) (set_blk HB.out 3 (.int .i64 6)) hA hlt hg hi ⟨rfl, rfl, by decide⟩, hg⟩
      clear h5 hle hi hA HE HD
      go_wp2_with fail
      go_end0
      exact ⟨rfl, HF.out⟩
    | cons t r =>
      obtain ⟨hlt2, hti, _⟩ := drop_at HD.out
      obtain ⟨g, o, rfl, hg, ht⟩ := hA.resolve_left (by rintro rfl; simp at hlt2)
      have ht3 := ht.grown2 HG.out (by omega) (fun e => by cases e; omega)
      obtain ⟨c0, c1, c2, hof⟩ := ht3 i t hti
      have hl : ((i : Nat) : Int) < (ts.length : Nat) := by omega
      have h0 : (0 : Int) ≤ ((i : Nat) : Int) := by omega
      have HF : Hid (∀ W, W3.grownBy W (some b) → W.heap[b]? = W3.heap[b]? → RdI b n ts (failS n e (.ok (t :: r))) (W.setCell ⟨b, 4, none⟩ (.int .i64 (t.off : Int))) ∧ w.grownBy (W.setCell ⟨b, 4, none⟩ (.int .i64 (t.off : Int))) (some b)) := by
        refine hide fun W hW hWb => ?_
        have hg := grown_trans (grown_trans HG.out hW) (set_grown W b 4 (.int .i64 (t.off : Int)))
        exact ⟨RdI.set hfew hsz (i := i) (e := e) (a := t.off) (set_blk (hWb.trans HB.out) 4 (.int .i64 (t.off : Int))) hA hlt hg hi ⟨rfl, rfl, HE.out⟩, hg⟩
      clear h5 hti hlt2 ht ht3 c0 c1 hi hA HE HD hof hg
      go_wp2_with fail
      go_still_tail 14, (by kernel_rfl)
      change wpList _ _ _ _ _ W3.drew
      go_wp2_with fail
      go_end0
      exact ⟨rfl, HF.out _ (below_grown (below_drewX W3) _) rfl⟩
theorem RdI.good {b n : Nat} {ts : List Tok} {t : Tok} {r : List Tok} {w : World} (h : RdI b n ts (.ok (t :: r)) w) :
    ∃ (g o c i : Nat) (a : Int), w.heap[b]? = some (.cells #[.slice (some ⟨g, o, none⟩) ts.length c, .int .i64 (i : Int), .int .i64 (n : Int), .int .i64 0, .int .i64 a] 74 (0, 0)) ∧ i < ts.length ∧ i ≤ 1000000 ∧
      w.cell? ⟨g, o + i * 3, none⟩ = some (.int .i64 (t.kind : Int)) ∧ w.cell? ⟨g, o + i * 3 + 1, none⟩ = some (.string ⟨t.text.toArray⟩) ∧
      (∀ W, w.grownBy W (some b) → W.heap[b]? = w.heap[b]? → RdI b n ts (.ok r) (W.setCell ⟨b, 1, none⟩ (.int .i64 ((i : Int) + 1))) ∧ w.grownBy (W.setCell ⟨b, 1, none⟩ (.int .i64 ((i : Int) + 1))) (some b)) := by
  obtain ⟨A, c, i, e, a, hbk, hA, hi, hs⟩ := h.cell
  obtain ⟨rfl, hd⟩ := hs
  obtain ⟨hlt, hti, hd2⟩ := drop_at hd
  have hfew := h.few
  obtain ⟨g, o, rfl, hg, ht⟩ := hA.resolve_left (by rintro rfl; simp at hlt)
  obtain ⟨c0, c1, c2, hof⟩ := ht i t hti
  have hl := lt_of_blk hbk
  refine ⟨g, o, c, i, a, hbk, hlt, by omega, c0, c1, fun W hW hWb => ?_⟩
  have hg2 := grown_trans hW (set_grown W b 1 (.int .i64 ((i : Int) + 1)))
  have hb2 := set_blk (hWb.trans hbk) 1 (.int .i64 ((i : Int) + 1))
  exact ⟨RdI.set h.few h.size (i := i + 1) (e := 0) (a := a) hb2 hA hl hg2 (by omega) ⟨rfl, hd2⟩, hg2⟩
theorem isS_true {k : Nat} {s : L} {st : Rst} (h : isS k s st = true) : ∃ t r, st = .ok (t :: r) := by
  cases st with
  | error x => cases h
  | ok r =>
    cases r with
    | nil => cases h
    | cons t r => exact ⟨t, r, rfl⟩
set_option maxRecDepth 100000 in
set_option maxHeartbeats 4000000 in
theorem gword_any (b n : Nat) (s : L) (ts : List Tok) (st : Rst) (w : World) (h : RdI b n ts st w) :
    Calls Tryz.prog 49 #[.pointer (some ⟨b, 0, none⟩), .string (ba s)] w fun e w' => ∃ q st', wordQ s st = (q, st') ∧ e = .returned (.bool q) ∧ RdI b n ts st' w' ∧ w.grownBy w' (some b) := by
  have HI := hide (is_any b n 1 s ts st w h)
  clear h
  cases hq : isS 1 s st with
  | false =>
    rw [hq] at HI
    have HW : Hid (wordQ s st = (false, st)) := by unfold wordQ; rw [hq]; exact hide rfl
    clear hq
    go_enter Tryz.func49, Tryz.ntmps49
    go_wp2_with fail
    refine HI.out.mono ?_
    rintro _ w1 ⟨rfl, h1, h2⟩
    have H1 := hide h1
    have H2 := hide h2
    clear h1 h2
    go_wp2_with fail
    go_ret
    exact ⟨false, st, HW.out, rfl, H1.out, H2.out⟩
  | true =>
    rw [hq] at HI
    obtain ⟨t, r, rfl⟩ := isS_true hq
    have HW : Hid (wordQ s (.ok (t :: r)) = (true, .ok r)) := by unfold wordQ; rw [hq]; exact hide rfl
    clear hq
    go_enter Tryz.func49, Tryz.ntmps49
    go_wp2_with fail
    refine HI.out.mono ?_
    rintro _ w1 ⟨rfl, h1, h2⟩
    obtain ⟨g, o, c, i, a, hbk, hlt, hi, c0, c1, hset⟩ := h1.good
    obtain ⟨k0, k1, k2, k3, k4, fz⟩ := blk5 hbk
    have HS := hide hset
    have H2 := hide h2
    clear h1 h2 hset hbk c0 c1
    go_wp2_with fail
    go_ret
    obtain ⟨q1, q2⟩ := HS.out w1 (grown_refl _ _) rfl
    exact ⟨true, _, HW.out, rfl, q1, grown_trans H2.out q2⟩
set_option maxRecDepth 100000 in
set_option maxHeartbeats 4000000 in
theorem gsymbol_any (b n : Nat) (s : L) (ts : List Tok) (st : Rst) (w : World) (h : RdI b n ts st w) :
    Calls Tryz.prog 51 #[.pointer (some ⟨b, 0, none⟩), .string (ba s)] w fun e w' => ∃ st', symbolS n s st = st' ∧ e = .returned (.tuple #[]) ∧ RdI b n ts st' w' ∧ w.grownBy w' (some b) := by
  have HI := hide (is_any b n 4 s ts st w h)
  clear h
  cases hq : isS 4 s st with
  | false =>
    rw [hq] at HI
    have HW : Hid (symbolS n s st = failS n 5 st) := by unfold symbolS; rw [hq]; exact hide rfl
    clear hq
    go_enter Tryz.func51, Tryz.ntmps51
    go_wp2_with fail
    refine HI.out.mono ?_
    rintro _ w1 ⟨rfl, h1, h2⟩
    have HF := hide (gfail_any b n 5 ts st w1 h1 (by decide) (fun _ => rfl))
    have H2 := hide h2
    clear h1 h2
    go_wp2_with fail
    refine HF.out.mono ?_
    rintro _ w2 ⟨rfl, h1, h2⟩
    have H3 := hide h1
    have H4 := hide (grown_trans H2.out h2)
    clear h1 h2
    go_wp2_with fail
    exact bodyPost_ret (v := .tuple #[]) (by simp [results, Tryz.f51, go_sem]) rfl ⟨_, HW.out, rfl, H3.out, H4.out⟩
  | true =>
    rw [hq] at HI
    obtain ⟨t, r, rfl⟩ := isS_true hq
    have HW : Hid (symbolS n s (.ok (t :: r)) = .ok r) := by unfold symbolS; rw [hq]; exact hide rfl
    clear hq
    go_enter Tryz.func51, Tryz.ntmps51
    go_wp2_with fail
    refine HI.out.mono ?_
    rintro _ w1 ⟨rfl, h1, h2⟩
    obtain ⟨g, o, c, i, a, hbk, hlt, hi, c0, c1, hset⟩ := h1.good
    obtain ⟨k0, k1, k2, k3, k4, fz⟩ := blk5 hbk
    have HS := hide hset
    have H2 := hide h2
    clear h1 h2 hset hbk c0 c1
    go_wp2_with fail
    go_end0
    obtain ⟨q1, q2⟩ := HS.out w1 (grown_refl _ _) rfl
    exact ⟨_, HW.out, rfl, q1, grown_trans H2.out q2⟩
/-! The reference's reader of tokens, walked: how it takes a token of a kind. -/

theorem takeS_no {n k : Nat} {t : Tok} {r : List Tok} (h : t.kind ≠ k) : anyS n k (.ok (t :: r)) = ([], failS n 5 (.ok (t :: r))) := by
  have : takeT k (t :: r) = .error (5, t :: r) := by rw [takeT_cons, if_neg h]
  exact anyS_no n k this
theorem takeS_bad {n : Nat} {t : Tok} {r : List Tok} (h : t.kind = 3) (hv : valueL t.text = false) : anyS n 3 (.ok (t :: r)) = ([], failS n 10 (.ok (t :: r))) := by
  have : takeT 3 (t :: r) = .error (10, t :: r) := by rw [takeT_cons, if_pos h, if_pos ⟨rfl, hv⟩]
  exact anyS_no n 3 this
theorem takeS_ok {n k : Nat} {t : Tok} {r : List Tok} (h : t.kind = k) (hv : ¬ (k = 3 ∧ valueL t.text = false)) : anyS n k (.ok (t :: r)) = (t.text, .ok r) := by
  have : takeT k (t :: r) = .ok (t.text, r) := by rw [takeT_cons, if_pos h, if_neg hv]
  exact anyS_ok n k this
set_option maxRecDepth 100000 in
set_option maxHeartbeats 8000000 in
theorem gany_any (b n k : Nat) (ts : List Tok) (st : Rst) (w : World) (h : RdI b n ts st w) (hl : tokLen ts) :
    Calls Tryz.prog 50 #[.pointer (some ⟨b, 0, none⟩), .int .i64 (k : Int)] w fun e w' => ∃ s st', anyS n k st = (s, st') ∧ e = .returned (.string (ba s)) ∧ RdI b n ts st' w' ∧ w.grownBy w' (some b) := by
  have HP := hide (h.kept (below_grown (below_drewX w) none) (fun x hx => by cases hx))
  have HG : Hid (w.grownBy (Drn w ()) (some b)) := hide (below_grown (below_drewX w) _)
  have YN : Nonempty Unit := ⟨()⟩
  cases st with
  | error x =>
    obtain ⟨A, c, i, e, a, hbk, hA, hi, hs⟩ := h.cell
    have D3 : ∀ u, (Drn w u).cell? ⟨b, 3, none⟩ = some (.int .i64 (e : Int)) := fun _ => cell_of_row w b 3 _ _ _ hbk
    have h0 : e ≠ 0 := hs.2.2
    have e1 : ¬ ((e : Nat) : Int) = 0 := by omega
    have e2 : (((e : Nat) : Int) == 0) = false := beq_eq_false_iff_ne.2 e1
    have e3 : (((e : Nat) : Int) != 0) = true := by rw [bne, e2]; rfl
    have HW : Hid (anyS n k (.error x) = ([], failS n 5 (.error x))) := hide rfl
    clear hs h0 hA hi hbk h
    go_enter Tryz.func50, Tryz.ntmps50
    go_wp2_with fail
    refine wp_region_quietV (J := Unit) (Drn w) () rfl (by kernel_rfl) (by kernel_rfl) ?_
    repeat (go_big_quiet_step (fail))
    refine wpQuiet_nil ?_
    rintro w9 ⟨u, rfl⟩
    have HF := hide (gfail_any b n 5 ts (.error x) (Drn w u) HP.out (by decide) (fun e => rfl))
    go_wp2_with fail
    refine HF.out.mono ?_
    rintro _ w2 ⟨rfl, h1, h2⟩
    have H3 := hide h1
    have H4 := hide (grown_trans HG.out h2)
    clear h1 h2
    go_wp2_with fail
    go_ret
    exact ⟨[], _, HW.out, rfl, H3.out, H4.out⟩
  | ok r =>
    cases r with
    | nil =>
      obtain ⟨A, c, i, e, a, hbk, hA, hi, hs⟩ := h.cell
      obtain ⟨rfl, hd⟩ := hs
      have D0 : ∀ u, (Drn w u).cell? ⟨b, 0, none⟩ = some (.slice A ts.length c) := fun _ => cell_of_row w b 0 _ _ _ hbk
      have D1 : ∀ u, (Drn w u).cell? ⟨b, 1, none⟩ = some (.int .i64 (i : Int)) := fun _ => cell_of_row w b 1 _ _ _ hbk
      have D3 : ∀ u, (Drn w u).cell? ⟨b, 3, none⟩ = some (.int .i64 0) := fun _ => cell_of_row w b 3 _ _ _ hbk
      have hle : ts.length ≤ i := List.drop_eq_nil_iff.1 hd
      have hl1 : ((ts.length : Nat) : Int) ≤ (i : Nat) := by omega
      have hdn : decide (ts.length ≤ i) = true := decide_eq_true hle
      have HW : Hid (anyS n k (.ok []) = ([], failS n 5 (.ok []))) := hide rfl
      clear hd hA hi hbk h hle
      go_enter Tryz.func50, Tryz.ntmps50
      go_wp2_with fail
      refine wp_region_quietV (J := Unit) (Drn w) () rfl (by kernel_rfl) (by kernel_rfl) ?_
      repeat (go_big_quiet_step (fail))
      refine wpQuiet_nil ?_
      rintro w9 ⟨u, rfl⟩
      have HF := hide (gfail_any b n 5 ts (.ok []) (Drn w u) HP.out (by decide) (fun e => rfl))
      go_wp2_with fail
      refine HF.out.mono ?_
      rintro _ w2 ⟨rfl, h1, h2⟩
      have H3 := hide h1
      have H4 := hide (grown_trans HG.out h2)
      clear h1 h2
      go_wp2_with fail
      go_ret
      exact ⟨[], _, HW.out, rfl, H3.out, H4.out⟩
    | cons t r =>
      obtain ⟨g, o, c, i, a, hbk, hlt, hi, c0, c1, hset⟩ := h.good
      have D0 : ∀ u, (Drn w u).cell? ⟨b, 0, none⟩ = some (.slice (some ⟨g, o, none⟩) ts.length c) := fun _ => cell_of_row w b 0 _ _ _ hbk
      have D1 : ∀ u, (Drn w u).cell? ⟨b, 1, none⟩ = some (.int .i64 (i : Int)) := fun _ => cell_of_row w b 1 _ _ _ hbk
      have D3 : ∀ u, (Drn w u).cell? ⟨b, 3, none⟩ = some (.int .i64 0) := fun _ => cell_of_row w b 3 _ _ _ hbk
      have C0 : ∀ u, (Drn w u).cell? ⟨g, o + i * 3, none⟩ = some (.int .i64 (t.kind : Int)) := fun _ => c0
      have hl1 : ¬ ((ts.length : Nat) : Int) ≤ (i : Nat) := by omega
      have hl2 : ((i : Nat) : Int) < (ts.length : Nat) := by omega
      have h0 : (0 : Int) ≤ ((i : Nat) : Int) := by omega
      have hdn : decide (ts.length ≤ i) = false := decide_eq_false (by omega)
      have htl : t.text.length ≤ 1000000 := hl t (by
        obtain ⟨A', c', i', e', a', hbk', hA', hi', hs'⟩ := h.cell
        have hm : t ∈ ts.drop i' := by rw [hs'.2]; exact List.mem_cons_self ..
        exact List.mem_of_mem_drop hm)
      by_cases hk : t.kind = k
      · subst hk
        have k2 : ((t.kind : Int) == (t.kind : Int)) = true := by simp
        have k3 : ((t.kind : Int) != (t.kind : Int)) = false := by simp
        have E0 : ∀ u, (Drn (Drn w ()) u).cell? ⟨b, 0, none⟩ = some (.slice (some ⟨g, o, none⟩) ts.length c) := fun _ => D0 ()
        have E1 : ∀ u, (Drn (Drn w ()) u).cell? ⟨b, 1, none⟩ = some (.int .i64 (i : Int)) := fun _ => D1 ()
        have E2 : ∀ u, (Drn (Drn w ()) u).cell? ⟨g, o + i * 3 + 1, none⟩ = some (.string ⟨t.text.toArray⟩) := fun _ => c1
        have HP2 : Hid (RdI b n ts (.ok (t :: r)) (Drn (Drn w ()) ())) := hide (HP.out.kept (below_grown (below_drewX (Drn w ())) none) (fun x hx => by cases hx))
        have HG2 : Hid (w.grownBy (Drn (Drn w ()) ()) (some b)) := hide (grown_trans HG.out (below_grown (below_drewX (Drn w ())) _))
        have HS : Hid (RdI b n ts (.ok r) ((Drn (Drn w ()) ()).setCell ⟨b, 1, none⟩ (.int .i64 ((i : Int) + 1))) ∧ w.grownBy ((Drn (Drn w ()) ()).setCell ⟨b, 1, none⟩ (.int .i64 ((i : Int) + 1))) (some b)) := hide (hset _ HG2.out rfl)
        have k1' : (Drn (Drn w ()) ()).cell? ⟨b, 1, none⟩ = some (.int .i64 (i : Int)) := D1 ()
        have f1' : (Drn (Drn w ()) ()).frozen? ⟨b, 1, none⟩ = false := (blk5 hbk).2.2.2.2.2 1
        obtain ⟨w2, hw2⟩ : ∃ w2, Drn (Drn w ()) () = w2 := ⟨_, rfl⟩
        rw [hw2] at HP2 HG2 HS k1' f1'
        have HW2 := hide hw2
        clear hw2
        clear hset hbk h c0 c1
        by_cases hk3 : t.kind = 3
        · cases hv : valueL t.text with
          | false =>
            have HW : Hid (anyS n 3 (.ok (t :: r)) = ([], failS n 10 (.ok (t :: r)))) := hide (takeS_bad hk3 hv)
            have HV := hide (gvalue_any (ba t.text) · (by unfold maxLen; show t.text.length ≤ _; omega))
            rw [valueB_ba, hv] at HV
            rw [hk3] at C0 k2 k3 ⊢
            clear hv hk3
            go_enter Tryz.func50, Tryz.ntmps50
            go_wp2_with fail
            refine wp_region_quietV (J := Unit) (Drn w) () rfl (by kernel_rfl) (by kernel_rfl) ?_
            repeat (go_big_quiet_step (fail))
            refine wpQuiet_nil ?_
            rintro w9 ⟨u, rfl⟩
            obtain ⟨⟩ := u
            go_wp2_with fail
            refine wp_region_quietV (J := Unit) (Drn (Drn w ())) () rfl (by kernel_rfl) (by kernel_rfl) ?_
            repeat (go_big_quiet_step (fail))
            refine wpQuiet_nil ?_
            rintro w9 ⟨u2, rfl⟩
            obtain ⟨⟩ := u2
            rw [HW2.out]
            go_wp2_with fail
            refine (HV.out _).mono ?_
            rintro _ w4 ⟨rfl, hw4⟩
            rw [hw4]
            clear hw4
            have HF := hide (gfail_any b n 10 ts (.ok (t :: r)) w2 HP2.out (by decide) (fun e => by cases e))
            go_wp2_with fail
            refine HF.out.mono ?_
            rintro _ w2 ⟨rfl, h1, h2⟩
            have H3 := hide h1
            have H4 := hide (grown_trans HG2.out h2)
            clear h1 h2
            go_wp2_with fail
            go_ret
            exact ⟨[], _, HW.out, rfl, H3.out, H4.out⟩
          | true =>
            have HW : Hid (anyS n 3 (.ok (t :: r)) = (t.text, .ok r)) := hide (takeS_ok hk3 (by rw [hv]; simp))
            have HV := hide (gvalue_any (ba t.text) · (by unfold maxLen; show t.text.length ≤ _; omega))
            rw [valueB_ba, hv] at HV
            rw [hk3] at C0 k2 k3 ⊢
            clear hv hk3
            go_enter Tryz.func50, Tryz.ntmps50
            go_wp2_with fail
            refine wp_region_quietV (J := Unit) (Drn w) () rfl (by kernel_rfl) (by kernel_rfl) ?_
            repeat (go_big_quiet_step (fail))
            refine wpQuiet_nil ?_
            rintro w9 ⟨u, rfl⟩
            obtain ⟨⟩ := u
            go_wp2_with fail
            refine wp_region_quietV (J := Unit) (Drn (Drn w ())) () rfl (by kernel_rfl) (by kernel_rfl) ?_
            repeat (go_big_quiet_step (fail))
            refine wpQuiet_nil ?_
            rintro w9 ⟨u2, rfl⟩
            obtain ⟨⟩ := u2
            rw [HW2.out]
            go_wp2_with fail
            refine (HV.out _).mono ?_
            rintro _ w4 ⟨rfl, hw4⟩
            rw [hw4]
            clear hw4
            go_wp2_with fail
            go_ret
            exact ⟨_, _, HW.out, rfl, HS.out⟩
        · have k4 : ¬ ((t.kind : Nat) : Int) = 3 := by omega
          have k5 : (((t.kind : Nat) : Int) == 3) = false := beq_eq_false_iff_ne.2 k4
          have k6 : (t.kind == 3) = false := beq_eq_false_iff_ne.2 hk3
          have HW : Hid (anyS n t.kind (.ok (t :: r)) = (t.text, .ok r)) := hide (takeS_ok rfl (fun e => hk3 e.1))
          clear hk3
          go_enter Tryz.func50, Tryz.ntmps50
          go_wp2_with fail
          refine wp_region_quietV (J := Unit) (Drn w) () rfl (by kernel_rfl) (by kernel_rfl) ?_
          repeat (go_big_quiet_step (fail))
          refine wpQuiet_nil ?_
          rintro w9 ⟨u, rfl⟩
          obtain ⟨⟩ := u
          go_wp2_with fail
          refine wp_region_quietV (J := Unit) (Drn (Drn w ())) () rfl (by kernel_rfl) (by kernel_rfl) ?_
          repeat (go_big_quiet_step (fail))
          refine wpQuiet_nil ?_
          rintro w9 ⟨u2, rfl⟩
          obtain ⟨⟩ := u2
          rw [HW2.out]
          go_wp2_with fail
          go_ret
          exact ⟨_, _, HW.out, rfl, HS.out⟩
      · have HW : Hid (anyS n k (.ok (t :: r)) = ([], failS n 5 (.ok (t :: r)))) := hide (takeS_no hk)
        have k1 : ¬ ((t.kind : Int) = (k : Int)) := by omega
        have k2 : ((t.kind : Int) == (k : Int)) = false := beq_eq_false_iff_ne.2 k1
        have k3 : (t.kind == k) = false := by simpa using hk
        have k4 : ((t.kind : Int) != (k : Int)) = true := by rw [bne, k2]; rfl
        have k5 : (t.kind != k) = true := by rw [bne, k3]; rfl
        clear hk hset hbk h c0 c1
        go_enter Tryz.func50, Tryz.ntmps50
        go_wp2_with fail
        refine wp_region_quietV (J := Unit) (Drn w) () rfl (by kernel_rfl) (by kernel_rfl) ?_
        repeat (go_big_quiet_step (fail))
        refine wpQuiet_nil ?_
        rintro w9 ⟨u, rfl⟩
        have HF := hide (gfail_any b n 5 ts (.ok (t :: r)) (Drn w u) HP.out (by decide) (fun e => rfl))
        go_wp2_with fail
        refine HF.out.mono ?_
        rintro _ w2 ⟨rfl, h1, h2⟩
        have H3 := hide h1
        have H4 := hide (grown_trans HG.out h2)
        clear h1 h2
        go_wp2_with fail
        go_ret
        exact ⟨[], _, HW.out, rfl, H3.out, H4.out⟩
end Go.Proofs.YtoodmhlefaepaaaGreat
