/-
  The parser's small methods, walked.
-/
import Derived.Test.YtoodmhlefaepaaaGreatLexE
import Derived.Test.YtoodmhlefaepaaaGreatPlainA
import Derived.OwnWalk
namespace Go.Proofs.YtoodmhlefaepaaaGreat
open Go.RowKit Go.Proofs.PlLex Go.Proofs.PlRule

/-- The parser, at what is left of the tokens. -/
structure PrsI (b n : Nat) (r : List Tok) (W : World) : Prop where
  cell : ∃ A c, W.heap[b]? = some (.cells #[.slice A r.length c, .int .i64 (n : Int)] 69 (0, 0)) ∧ r.length ≤ c ∧ (r = [] ∨ ∃ g o, A = some ⟨g, o, none⟩ ∧ g < b ∧ TokAt W g o r)
  few : r.length ≤ 1000000
  size : n ≤ 1000000
theorem lt_of_blk {w : World} {g : Nat} {o : Obj} (h : w.heap[g]? = some o) : g < w.heap.size := (Array.getElem?_eq_some_iff.1 h).1
theorem grown_trans {a b c : World} {row : Option Nat} (h : a.grownBy b row) (k : b.grownBy c row) : a.grownBy c row :=
  ⟨k.os.trans h.os, k.tape.trans h.tape, k.output.trans h.output, Nat.le_trans h.size k.size, fun i hi hr => (k.block i (Nat.lt_of_lt_of_le hi h.size) hr).trans (h.block i hi hr)⟩
theorem grown_refl (a : World) (row : Option Nat) : a.grownBy a row := ⟨rfl, rfl, rfl, Nat.le_refl _, fun _ _ _ => rfl⟩
theorem TokAt.grown {w w' : World} {g o b : Nat} {ts : List Tok} (h : TokAt w g o ts) (hg : g < b) (hb : b < w.heap.size) (hk : w.grownBy w' (some b)) : TokAt w' g o ts := by
  have key : ∀ j, w'.cell? ⟨g, j, none⟩ = w.cell? ⟨g, j, none⟩ := fun j => by
    have := hk.block g (by omega) (by intro e; cases e; omega)
    simp [World.cell?, this]
  intro i t ht
  obtain ⟨h1, h2, h3, h4⟩ := h i t ht
  exact ⟨(key _).trans h1, (key _).trans h2, (key _).trans h3, h4⟩
theorem tl_ba (s : L) : (ba s).toList = s := by simp [ba]
theorem acceptT_cons (k : Nat) (s : L) (t : Tok) (r : List Tok) : acceptT k s (t :: r) = if t.kind = k ∧ t.text = s then some r else none := rfl
theorem PrsI.set {b n : Nat} {t : Tok} {r : List Tok} {w : World} (h : PrsI b n (t :: r) w) {g o c : Nat} (hb : w.heap[b]? = some (.cells #[.slice (some ⟨g, o, none⟩) (t :: r).length c, .int .i64 (n : Int)] 69 (0, 0))) (hg : g < b) (ht : TokAt w g o (t :: r)) (A : Option Addr) (c' : Nat) (hc : r.length ≤ c') (hA : r = [] ∨ A = some ⟨g, o + 3, none⟩) :
    PrsI b n r (w.setCell ⟨b, 0, none⟩ (.slice A r.length c')) ∧ w.grownBy (w.setCell ⟨b, 0, none⟩ (.slice A r.length c')) (some b) := by
  have hlt := lt_of_blk hb
  have hh : w.heap[b] = .cells #[.slice (some ⟨g, o, none⟩) (t :: r).length c, .int .i64 (n : Int)] 69 (0, 0) := by simpa [Array.getElem?_eq_getElem hlt] using hb
  have hgr : w.grownBy (w.setCell ⟨b, 0, none⟩ (.slice A r.length c')) (some b) := by
    refine ⟨rfl, rfl, rfl, by simp [World.setCell], fun i hi hr => ?_⟩
    have : b ≠ i := fun e => hr (by rw [e])
    simp [World.setCell, Array.getElem?_modify, this]
  refine ⟨⟨⟨A, c', ?_, hc, ?_⟩, by have := h.few; simp at this; omega, h.size⟩, hgr⟩
  · show (w.heap.modify b _)[b]? = _
    rw [Array.getElem?_eq_getElem (by simpa using hlt), Array.getElem_modify_self, hh]
    rfl
  · rcases hA with hA | hA
    · exact .inl hA
    · refine .inr ⟨g, o + 3, hA, hg, ?_⟩
      have := ht.grown hg hlt hgr
      intro i u hu
      have h1 := this (i + 1) u (by simpa using hu)
      rw [show o + (i + 1) * 3 = o + 3 + i * 3 by omega] at h1
      exact h1
set_option maxRecDepth 100000 in
set_option maxHeartbeats 4000000 in
theorem accept_any (b n : Nat) (r : List Tok) (k : Nat) (s : L) (w : World) (h : PrsI b n r w) :
    Calls Tryz.prog 72 #[.pointer (some ⟨b, 0, none⟩), .int .i64 (k : Int), .string (ba s)] w fun e w' =>
      (acceptT k s r = none ∧ e = .returned (.bool false) ∧ w' = w) ∨ ∃ r', acceptT k s r = some r' ∧ e = .returned (.bool true) ∧ PrsI b n r' w' ∧ w.grownBy w' (some b) := by
  obtain ⟨A, c, hbk, hc, hA⟩ := h.cell
  have HPR := hide h
  have HBK := hide hbk
  have d0 : w.cell? ⟨b, 0, none⟩ = some (.slice A r.length c) := cell_of_row w b 0 _ _ _ hbk
  have f0 : w.frozen? ⟨b, 0, none⟩ = false := by simp [World.frozen?, hbk]
  cases r with
  | nil =>
    clear hA hbk h
    go_enter Tryz.func72, Tryz.ntmps72
    go_wp2_with fail
    go_ret
    exact .inl ⟨rfl, rfl, rfl⟩
  | cons t r =>
    obtain ⟨g, o, rfl, hg, ht⟩ := hA.resolve_left (by simp)
    obtain ⟨c0, c1, c2, _⟩ := ht 0 t rfl
    simp only [Nat.zero_mul, Nat.add_zero] at c0 c1 c2
    have HT := hide ht
    have l1 : (t :: r).length = r.length + 1 := rfl
    clear hbk h ht hA
    by_cases hk : t.kind = k
    · have k1 : ((t.kind : Int) = (k : Int)) := by omega
      have k2 : ((t.kind : Int) == (k : Int)) = true := by rw [k1]; simp
      have HR := hide (show (t :: r).length ≤ c from hc)
      by_cases hs : t.text = s
      · have s1 : (t.text == (ba s).toList) = true := by rw [hs, tl_ba]; simp
        have HY : Hid (acceptT k s (t :: r) = some r) := by rw [acceptT_cons, if_pos ⟨hk, hs⟩]; exact hide rfl
        subst hk
        clear hs k1
        by_cases hc1 : c = 1
        · subst hc1
          obtain rfl : r = [] := by
            have := HR.out
            cases r with
            | nil => rfl
            | cons x r => simp at this
          go_enter Tryz.func72, Tryz.ntmps72
          go_wp2_with fail
          go_ret
          obtain ⟨h1, h2⟩ := HPR.out.set HBK.out hg HT.out (some ⟨g, o, none⟩) 0 (Nat.le_refl _) (.inl rfl)
          exact .inr ⟨_, HY.out, rfl, h1, h2⟩
        · go_enter Tryz.func72, Tryz.ntmps72
          go_wp2_with fail
          go_ret
          obtain ⟨h1, h2⟩ := HPR.out.set HBK.out hg HT.out (some ⟨g, o + 3, none⟩) (c - 1) (by have := HR.out; simp at this; omega) (.inr rfl)
          exact .inr ⟨_, HY.out, rfl, h1, h2⟩
      · have s1 : (t.text == (ba s).toList) = false := by
          rw [tl_ba, beq_eq_false_iff_ne]
          exact hs
        have HN : Hid (acceptT k s (t :: r) = none) := by rw [acceptT_cons, if_neg (fun e => hs e.2)]; exact hide rfl
        subst hk
        clear hs k1
        go_enter Tryz.func72, Tryz.ntmps72
        go_wp2_with fail
        go_ret
        exact .inl ⟨HN.out, rfl, rfl⟩
    · have k1 : ¬ ((t.kind : Int) = (k : Int)) := by omega
      have k2 : ((t.kind : Int) == (k : Int)) = false := beq_eq_false_iff_ne.2 k1
      have k3 : (t.kind == k) = false := by simpa using hk
      have HN : Hid (acceptT k s (t :: r) = none) := by rw [acceptT_cons, if_neg (fun e => hk e.1)]; exact hide rfl
      clear hk
      go_enter Tryz.func72, Tryz.ntmps72
      go_wp2_with fail
      go_ret
      exact .inl ⟨HN.out, rfl, rfl⟩
def fltV (x : Nat × Int) : Value := .iface 65 (.agg #[.int .i64 (x.1 : Int), .int .i64 x.2])
def fltE (n : Nat) (x : Nat × List Tok) : Ending := .panicked [{ v := fltV (errAt n x), recovered := false }]
set_option maxRecDepth 100000 in
set_option maxHeartbeats 4000000 in
theorem fail_any (b n e : Nat) (r : List Tok) (w : World) (h : PrsI b n r w) :
    Calls Tryz.prog 22 #[.pointer (some ⟨b, 0, none⟩), .int .i64 (e : Int)] w fun en w' => en = fltE n (e, r) ∧ w' = w := by
  obtain ⟨A, c, hbk, hc, hA⟩ := h.cell
  have d0 : w.cell? ⟨b, 0, none⟩ = some (.slice A r.length c) := cell_of_row w b 0 _ _ _ hbk
  have d1 : w.cell? ⟨b, 1, none⟩ = some (.int .i64 (n : Int)) := cell_of_row w b 1 _ _ _ hbk
  cases r with
  | nil =>
    clear hA hbk h
    go_enter Tryz.func22, Tryz.ntmps22
    go_wp2_with fail
    exact ⟨rfl, rfl, rfl⟩
  | cons t r =>
    obtain ⟨g, o, rfl, hg, ht⟩ := hA.resolve_left (by simp)
    obtain ⟨c0, c1, c2, _⟩ := ht 0 t rfl
    simp only [Nat.zero_mul, Nat.add_zero] at c0 c1 c2
    have l1 : (t :: r).length = r.length + 1 := rfl
    have l2 : (0 : Int) < ((t :: r).length : Nat) := by rw [l1]; omega
    clear hbk h ht hA
    go_enter Tryz.func22, Tryz.ntmps22
    go_wp2_with fail
    exact ⟨rfl, rfl, rfl⟩
set_option maxRecDepth 100000 in
set_option maxHeartbeats 4000000 in
theorem pword_any (b n : Nat) (r : List Tok) (s : L) (w : World) (h : PrsI b n r w) :
    Calls Tryz.prog 41 #[.pointer (some ⟨b, 0, none⟩), .string (ba s)] w fun e w' =>
      (acceptT 1 s r = none ∧ e = .returned (.bool false) ∧ w' = w) ∨ ∃ r', acceptT 1 s r = some r' ∧ e = .returned (.bool true) ∧ PrsI b n r' w' ∧ w.grownBy w' (some b) := by
  have HA := hide (accept_any b n r 1 s w h)
  clear h
  go_enter Tryz.func41, Tryz.ntmps41
  go_wp2_with fail
  refine HA.out.mono ?_
  rintro _ w1 (⟨h1, rfl, rfl⟩ | ⟨r', h1, rfl, h2, h3⟩)
  · have H1 := hide h1
    clear h1
    go_wp2_with fail
    go_ret
    exact .inl ⟨H1.out, rfl, rfl⟩
  · have H1 := hide h1
    have H2 := hide h2
    have H3 := hide h3
    clear h1 h2 h3
    go_wp2_with fail
    go_ret
    exact .inr ⟨r', H1.out, rfl, H2.out, H3.out⟩
set_option maxRecDepth 100000 in
set_option maxHeartbeats 4000000 in
theorem symbol_any (b n : Nat) (r : List Tok) (s : L) (w : World) (h : PrsI b n r w) :
    Calls Tryz.prog 44 #[.pointer (some ⟨b, 0, none⟩), .string (ba s)] w fun e w' =>
      (∃ r', symbolT s r = .ok r' ∧ e = .returned (.tuple #[]) ∧ PrsI b n r' w' ∧ w.grownBy w' (some b)) ∨ ∃ x, symbolT s r = .error x ∧ e = fltE n x ∧ w.grownBy w' (some b) := by
  have HA := hide (accept_any b n r 4 s w h)
  have HF := hide (fail_any b n 5 r w h)
  clear h
  go_enter Tryz.func44, Tryz.ntmps44
  go_wp2_with fail
  refine HA.out.mono ?_
  rintro _ w1 (⟨h1, rfl, rfl⟩ | ⟨r', h1, rfl, h2, h3⟩)
  · have H1 := hide h1
    clear h1
    go_wp2_with fail
    refine HF.out.mono ?_
    rintro _ w2 ⟨rfl, rfl⟩
    have H2 : Hid (symbolT s r = .error (5, r)) := by unfold symbolT; rw [H1.out]; exact hide rfl
    unfold fltE
    go_wp2_with fail
    exact ⟨rfl, .inr ⟨_, H2.out, rfl, grown_refl _ _⟩⟩
  · have H1 : Hid (symbolT s r = .ok r') := by unfold symbolT; rw [h1]; exact hide rfl
    have H2 := hide h2
    have H3 := hide h3
    clear h1 h2 h3
    go_wp2_with fail
    go_end0
    exact .inl ⟨r', H1.out, rfl, H2.out, H3.out⟩
theorem ret_b {a b : Bool} (h : a = b) : Ending.returned (.bool a) = .returned (.bool b) := by rw [h]
theorem takeT_cons (k : Nat) (t : Tok) (r : List Tok) : takeT k (t :: r) = if t.kind = k then (if k = 3 ∧ valueL t.text = false then .error (10, t :: r) else .ok (t.text, r)) else .error (5, t :: r) := rfl
theorem valueB_ba (l : L) : valueB (ba l) = valueL l := by
  unfold valueB valueL ba
  cases l <;> simp [ByteArray.size]
set_option maxHeartbeats 4000000 in
theorem isval_any (s : ByteArray) (w : World) (hs : s.size ≤ maxLen) : Calls Tryz.prog 55 #[.string s] w fun e w' => e = .returned (.bool (valueB s)) ∧ w' = w := by
  obtain ⟨V, hV⟩ : ∃ V, valueB s = V := ⟨_, rfl⟩
  rw [hV]
  unfold maxLen at hs
  unfold valueB at hV
  by_cases h0 : s.size = 0
  · have e : s = ⟨#[]⟩ := by
      cases s with
      | mk d =>
        have : d = #[] := Array.eq_empty_of_size_eq_zero h0
        rw [this]
    subst e
    have HV : Hid (V = false) := by rw [← hV]; exact hide rfl
    clear hV h0 hs
    go_enter Tryz.func55, Tryz.ntmps55
    go_wp2_with fail
    go_ret
    exact ⟨ret_b HV.out.symm, rfl⟩
  · have e1 : ¬ s.toList = [] := fun e => by
      have := PlNet.toList_inj.1 (show s.toList = (⟨#[]⟩ : ByteArray).toList by rw [e]; simp)
      subst this
      exact h0 rfl
    have e2 : s.toList.isEmpty = false := by
      cases h : s.toList with
      | nil => exact absurd h e1
      | cons _ _ => rfl
    by_cases h2 : s.size ≤ 200
    · have HV : Hid (V = true) := by rw [← hV]; exact hide (by simp [h0, h2])
      have h3 : (s.size : Int) ≤ 200 := by omega
      clear hV h0 h2
      go_enter Tryz.func55, Tryz.ntmps55
      go_wp2_with fail
      go_ret
      exact ⟨ret_b (by rw [HV.out]), rfl⟩
    · have HV : Hid (V = false) := by rw [← hV]; exact hide (by simp [h2])
      have h3 : ¬ (s.size : Int) ≤ 200 := by omega
      clear hV h0 h2
      go_enter Tryz.func55, Tryz.ntmps55
      go_wp2_with fail
      go_ret
      exact ⟨ret_b HV.out.symm, rfl⟩
set_option maxRecDepth 100000 in
set_option maxHeartbeats 4000000 in
theorem take_any (b n k : Nat) (r : List Tok) (w : World) (h : PrsI b n r w) (hr : ∀ t ∈ r, t.text.length ≤ 1000000) :
    Calls Tryz.prog 45 #[.pointer (some ⟨b, 0, none⟩), .int .i64 (k : Int)] w fun e w' =>
      (∃ s r', takeT k r = .ok (s, r') ∧ e = .returned (.string (ba s)) ∧ PrsI b n r' w' ∧ w.grownBy w' (some b)) ∨ ∃ x, takeT k r = .error x ∧ e = fltE n x ∧ w.grownBy w' (some b) := by
  have HF5 := hide (fail_any b n 5 r w h)
  have HF10 := hide (fail_any b n 10 r w h)
  obtain ⟨A, c, hbk, hc, hA⟩ := h.cell
  have HPR := hide h
  have HBK := hide hbk
  have d0 : w.cell? ⟨b, 0, none⟩ = some (.slice A r.length c) := cell_of_row w b 0 _ _ _ hbk
  have f0 : w.frozen? ⟨b, 0, none⟩ = false := by simp [World.frozen?, hbk]
  cases r with
  | nil =>
    clear hA hbk h
    go_enter Tryz.func45, Tryz.ntmps45
    go_wp2_with fail
    refine HF5.out.mono ?_
    rintro _ w2 ⟨rfl, rfl⟩
    unfold fltE
    go_wp2_with fail
    exact ⟨rfl, .inr ⟨_, rfl, rfl, grown_refl _ _⟩⟩
  | cons t r =>
    obtain ⟨g, o, rfl, hg, ht⟩ := hA.resolve_left (by simp)
    obtain ⟨c0, c1, c2, _⟩ := ht 0 t rfl
    simp only [Nat.zero_mul, Nat.add_zero] at c0 c1 c2
    have HT := hide ht
    have l1 : (t :: r).length = r.length + 1 := rfl
    have htl := hr t (List.mem_cons_self ..)
    clear hbk h ht hA hr
    by_cases hk : t.kind = k
    · have k1 : ((t.kind : Int) = (k : Int)) := by omega
      have HR := hide (show (t :: r).length ≤ c from hc)
      have HIV := hide (isval_any (ba t.text) w (by unfold maxLen; show t.text.toArray.size ≤ _; simp; omega))
      rw [valueB_ba] at HIV
      by_cases h3 : k = 3
      · subst h3
        rw [hk] at c0
        cases hv : valueL t.text with
        | false =>
          have HE : Hid (takeT 3 (t :: r) = .error (10, t :: r)) := by rw [takeT_cons, if_pos hk, if_pos ⟨rfl, hv⟩]; exact hide rfl
          rw [hv] at HIV
          clear hv hk k1
          go_enter Tryz.func45, Tryz.ntmps45
          go_wp2_with fail
          refine HIV.out.mono ?_
          rintro _ w2 ⟨rfl, rfl⟩
          go_wp2_with fail
          refine HF10.out.mono ?_
          rintro _ w2 ⟨rfl, rfl⟩
          unfold fltE
          go_wp2_with fail
          exact ⟨rfl, .inr ⟨_, HE.out, rfl, grown_refl _ _⟩⟩
        | true =>
          have HE : Hid (takeT 3 (t :: r) = .ok (t.text, r)) := by rw [takeT_cons, if_pos hk, if_neg (by rw [hv]; simp)]; exact hide rfl
          rw [hv] at HIV
          clear hv hk k1
          by_cases hc1 : c = 1
          · subst hc1
            obtain rfl : r = [] := by
              have := HR.out
              cases r with
              | nil => rfl
              | cons x r => simp at this
            go_enter Tryz.func45, Tryz.ntmps45
            go_wp2_with fail
            refine HIV.out.mono ?_
            rintro _ w2 ⟨rfl, rfl⟩
            go_wp2_with fail
            go_ret
            obtain ⟨h1, h2⟩ := HPR.out.set HBK.out hg HT.out (some ⟨g, o, none⟩) 0 (Nat.le_refl _) (.inl rfl)
            exact .inl ⟨_, _, HE.out, rfl, h1, h2⟩
          · go_enter Tryz.func45, Tryz.ntmps45
            go_wp2_with fail
            refine HIV.out.mono ?_
            rintro _ w2 ⟨rfl, rfl⟩
            go_wp2_with fail
            go_ret
            obtain ⟨h1, h2⟩ := HPR.out.set HBK.out hg HT.out (some ⟨g, o + 3, none⟩) (c - 1) (by have := HR.out; simp at this; omega) (.inr rfl)
            exact .inl ⟨_, _, HE.out, rfl, h1, h2⟩
      · have HE : Hid (takeT k (t :: r) = .ok (t.text, r)) := by rw [takeT_cons, if_pos hk, if_neg (fun e => h3 e.1)]; exact hide rfl
        have k3 : ¬ (k : Int) = 3 := by omega
        have k4 : ((k : Int) == 3) = false := beq_eq_false_iff_ne.2 k3
        subst hk
        clear h3 k1 HIV
        by_cases hc1 : c = 1
        · subst hc1
          obtain rfl : r = [] := by
            have := HR.out
            cases r with
            | nil => rfl
            | cons x r => simp at this
          go_enter Tryz.func45, Tryz.ntmps45
          go_wp2_with fail
          go_ret
          obtain ⟨h1, h2⟩ := HPR.out.set HBK.out hg HT.out (some ⟨g, o, none⟩) 0 (Nat.le_refl _) (.inl rfl)
          exact .inl ⟨_, _, HE.out, rfl, h1, h2⟩
        · go_enter Tryz.func45, Tryz.ntmps45
          go_wp2_with fail
          go_ret
          obtain ⟨h1, h2⟩ := HPR.out.set HBK.out hg HT.out (some ⟨g, o + 3, none⟩) (c - 1) (by have := HR.out; simp at this; omega) (.inr rfl)
          exact .inl ⟨_, _, HE.out, rfl, h1, h2⟩
    · have k1 : ¬ ((t.kind : Int) = (k : Int)) := by omega
      have k2 : ((t.kind : Int) == (k : Int)) = false := beq_eq_false_iff_ne.2 k1
      have k3 : (t.kind == k) = false := beq_eq_false_iff_ne.2 hk
      have k5 : ((t.kind : Int) != (k : Int)) = true := by rw [bne, k2]; rfl
      have HE : Hid (takeT k (t :: r) = .error (5, t :: r)) := by rw [takeT_cons, if_neg hk]; exact hide rfl
      go_enter Tryz.func45, Tryz.ntmps45
      go_wp2_with fail
      refine HF5.out.mono ?_
      rintro _ w2 ⟨rfl, rfl⟩
      unfold fltE
      go_wp2_with fail
      exact ⟨rfl, .inr ⟨_, HE.out, rfl, grown_refl _ _⟩⟩
theorem name_any' (b n : Nat) (r : List Tok) (w : World) (h : PrsI b n r w) (hr : ∀ t ∈ r, t.text.length ≤ 1000000) :
    Calls Tryz.prog 42 #[.pointer (some ⟨b, 0, none⟩)] w fun e w' =>
      (∃ s r', takeT 1 r = .ok (s, r') ∧ e = .returned (.string (ba s)) ∧ PrsI b n r' w' ∧ w.grownBy w' (some b)) ∨ ∃ x, takeT 1 r = .error x ∧ e = fltE n x ∧ w.grownBy w' (some b) := by
  have HT := hide (take_any b n 1 r w h hr)
  clear h hr
  go_enter Tryz.func42, Tryz.ntmps42
  go_wp2_with fail
  refine HT.out.mono ?_
  rintro _ w2 (⟨s, r', h1, rfl, h2, h3⟩ | ⟨x, h1, rfl, h2⟩)
  · have H1 := hide h1
    have H2 := hide h2
    have H3 := hide h3
    clear h1 h2 h3
    go_wp2_with fail
    go_ret
    exact .inl ⟨_, _, H1.out, rfl, H2.out, H3.out⟩
  · have H1 := hide h1
    have H2 := hide h2
    clear h1 h2
    unfold fltE
    go_wp2_with fail
    exact ⟨rfl, .inr ⟨_, H1.out, rfl, H2.out⟩⟩
end Go.Proofs.YtoodmhlefaepaaaGreat
