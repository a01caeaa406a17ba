/-
  The lexer's iterator, walked inside the wide fence: what it yields.
-/
import Derived.Test.YtoodmhlefaepaaaGreatLexK
import Derived.Test.YtoodmhlefaepaaaGreatLexJ
import Derived.Test.YtoodmhlefaepaaaGreatLexF
import Derived.RangeFuncNested
import Derived.RangeFuncBound
import Derived.RangeFuncCalls
import Derived.RangeFuncLeaves
import Derived.OwnWalkIn
import Derived.TacticsInMore
import Derived.LoopNIn
import Derived.LoopIn
import Derived.WalkMore
import Derived.Deep.DeepCutAuto
import Derived.Deep.CutBlock
import Derived.RegionTactic
import Derived.ChangeAlike
namespace Go.Proofs.YtoodmhlefaepaaaGreat
open Go.RowKit Go.Proofs.PlLex
attribute [local go_sem] Oper.semAt_some

/-- What the iterator hands over: a token, or an error. -/
structure Fd where
  kind : Nat
  text : L
  off : Nat
  err : Nat
def Fd.enc (x : Fd) : Value := .agg #[.int .i64 (x.kind : Int), .string ⟨x.text.toArray⟩, .int .i64 (x.off : Int), .int .i64 (x.err : Int)]
def Fd.ofTok (t : Tok) : Fd := ⟨t.kind, t.text, t.off, 0⟩

/-- What a round keeps: the blocks of the iterator's kinds of variables. -/
def Kp (W W' : World) : Prop :=
  W.heap.size ≤ W'.heap.size ∧ ∀ (b : Nat) (cs : Array Value) (t : TypeId) (fr : Nat × Nat), (t = 9 ∨ t = 117 ∨ t = 119 ∨ t = 100) →
    W.heap[b]? = some (.cells cs t fr) → W'.heap[b]? = some (.cells cs t fr)
theorem Kp.trans {A B C : World} (h : Kp A B) (k : Kp B C) : Kp A C := ⟨Nat.le_trans h.1 k.1, fun b cs t fr ht hb => k.2 b cs t fr ht (h.2 b cs t fr ht hb)⟩
theorem Kp.iter {s : ByteArray} {bt bc ba : Nat} {W W' : World} (h : Iter s bt bc ba W) (k : Kp W W') : Iter s bt bc ba W' :=
  ⟨⟨k.2 _ _ _ _ (.inl rfl) h.boxes.text, k.2 _ _ _ _ (.inr (.inl rfl)) h.boxes.cls⟩, k.2 _ _ _ _ (.inr (.inr (.inl rfl))) h.fn⟩
theorem Iter.below {s : ByteArray} {bt bc ba : Nat} {W W' : World} (h : Iter s bt bc ba W) (k : Below W.heap.size W W') : Iter s bt bc ba W' := by
  have lt : ∀ {b : Nat} {o : Obj}, W.heap[b]? = some o → b < W.heap.size := fun h => (Array.getElem?_eq_some_iff.1 h).1
  exact ⟨⟨(k.block _ (lt h.boxes.text)).trans h.boxes.text, (k.block _ (lt h.boxes.cls)).trans h.boxes.cls⟩, (k.block _ (lt h.fn)).trans h.fn⟩

/-- What has come when the iterator stands at a place, or at an error. -/
def Came (l : L) (pre : List Fd) : Prop :=
  (∃ ts us r, pre = ts.map Fd.ofTok ∧ scan 0 0 l = (ts ++ us, r)) ∨ (∃ ts x, pre = ts.map Fd.ofTok ++ [x] ∧ x.err ≠ 0 ∧ scan 0 0 l = (ts, some (x.err, x.off)))
def CameAll (l : L) (pre : List Fd) : Prop :=
  (∃ ts, pre = ts.map Fd.ofTok ∧ scan 0 0 l = (ts, none)) ∨ (∃ ts x, pre = ts.map Fd.ofTok ++ [x] ∧ x.err ≠ 0 ∧ scan 0 0 l = (ts, some (x.err, x.off)))

/-- What the iterator has found at a place: it is what 'nextT' says. -/
def FdOk (c : UInt8) (l : L) (off : Nat) (x : Fd) (n : Nat) : Prop :=
  x.off = off ∧ ((nextT c l = .ok (x.kind, x.text, n) ∧ x.err = 0) ∨ (nextT c l = .error x.err ∧ x.err ≠ 0))

/-- What is known when the found thing is about to be handed over. -/
structure Found (s : ByteArray) (ts : List Tok) (bt bc ba bf k k' : Nat) (J : List Fd → World → Prop) (x : Fd) (W : World) : Prop where
  le : k' ≤ s.size
  cell : W.heap[bf]? = some (.cells #[.int .i64 (x.kind : Int), .string ⟨x.text.toArray⟩, .int .i64 (x.off : Int), .int .i64 (x.err : Int)] 100 (0, 0))
  iter : Iter s bt bc ba W
  came : J (ts.map Fd.ofTok) W
  step : (x.err = 0 ∧ k < k' ∧ scan 0 0 s.data.toList = (ts ++ (⟨x.kind, x.text, x.off⟩ : Tok) :: (scan 0 k' (s.data.toList.drop k')).1, (scan 0 k' (s.data.toList.drop k')).2)) ∨
    (x.err ≠ 0 ∧ scan 0 0 s.data.toList = (ts, some (x.err, x.off)))

/-- The class at a place, by whether a word goes on there. -/
theorem at_word (s : ByteArray) (j : Nat) : (clsAt s j == 3 || clsAt s j == 4 || clsAt s j == 5) = (decide (j < s.size) && headWord (s.data.toList.drop j)) := by
  by_cases h : j < s.size
  · rw [clsAt_in s j h, cls_word, drop_cons s j h]; simp [h, headWord]
  · rw [clsAt_out s j h]; simp [h]
theorem twl_zero (p : UInt8 → Bool) (l : L) : (twl p l = 0) ↔ (∀ c m, l = c :: m → p c = false) := by
  cases l with
  | nil => simp [twl]
  | cons c l =>
    cases h : p c
    · simp [twl_no p c l h]; exact h
    · simp [twl_yes p c l h]
      exact h
theorem head_of_twl (l : L) (h : twl isWord l = 0) : headWord l = false := by
  cases l with
  | nil => rfl
  | cons c l => exact (twl_zero _ _).1 h c l rfl
theorem head_of_twl' (l : L) (h : 0 < twl isWord l) : headWord l = true := by
  cases l with
  | nil => simp [twl] at h
  | cons c l =>
    cases hc : isWord c
    · rw [twl_no _ _ _ hc] at h; omega
    · exact hc

theorem step_of (s : ByteArray) (ts : List Tok) (k : Nat) (hk : k < s.size) (c : UInt8) (l : L) (hd : s.data.toList.drop k = c :: l) (hc : noGap c)
    (hrel : scan 0 0 s.data.toList = (ts ++ (scan 0 k (s.data.toList.drop k)).1, (scan 0 k (s.data.toList.drop k)).2)) (x : Fd) (n : Nat) (hx : FdOk c l k x n) :
    ((x.err = 0 ∧ k < k + n ∧ scan 0 0 s.data.toList = (ts ++ (⟨x.kind, x.text, x.off⟩ : Tok) :: (scan 0 (k + n) (s.data.toList.drop (k + n))).1, (scan 0 (k + n) (s.data.toList.drop (k + n))).2)) ∨
    (x.err ≠ 0 ∧ scan 0 0 s.data.toList = (ts, some (x.err, x.off)))) ∧ (x.err = 0 → k + n ≤ s.size) := by
  obtain ⟨ho, ⟨h1, h2⟩ | ⟨h1, h2⟩⟩ := hx
  · obtain ⟨np1, np2⟩ := next_pos _ _ _ _ _ h1
    refine ⟨.inl ⟨h2, by omega, ?_⟩, fun _ => ?_⟩
    · rw [hrel, hd, scan_tok k _ _ hc np1 h1, ← hd, List.drop_drop, ho]
    · have := congrArg List.length hd
      rw [List.length_drop, size_list] at this
      simp at this
      omega
  · refine ⟨.inr ⟨h2, ?_⟩, fun h => absurd h h2⟩
    rw [hrel, hd, scan_err k _ _ hc h1, ho]
    simp

theorem Found.of (s : ByteArray) (ts : List Tok) (bt bc ba k : Nat) (J : List Fd → World → Prop) (B : Nat) (wr wx : World) (hJ : AbidesFrom B J) (hit : Iter s bt bc ba wr) (hj : J (ts.map Fd.ofTok) wr) (hk : k < s.size)
    (hc : noGap s[k]) (hrel : scan 0 0 s.data.toList = (ts ++ (scan 0 k (s.data.toList.drop k)).1, (scan 0 k (s.data.toList.drop k)).2)) (hb : Below wr.heap.size wr wx) (x : Fd) (n k' : Nat)
    (hx : FdOk s[k] (s.data.toList.drop (k + 1)) k x n) (hk' : k' ≤ s.size) (hn : x.err = 0 → k' = k + n) (tx : ByteArray) (ht : tx = ⟨x.text.toArray⟩)
    (hcell : wx.heap[wr.heap.size]? = some (.cells #[.int .i64 (x.kind : Int), .string tx, .int .i64 (x.off : Int), .int .i64 (x.err : Int)] 100 (0, 0))) : Found s ts bt bc ba wr.heap.size k k' J x wx := by
  obtain ⟨h1, h2⟩ := step_of s ts k hk s[k] _ (drop_cons s k hk) hc hrel x n hx
  refine ⟨hk', by rw [← ht]; exact hcell, hit.below hb, ?_, ?_⟩
  · exact hJ _ wr wx none hj ⟨hb.os, hb.tape, hb.output, hb.size, fun i hi _ => hb.block i hi⟩ (fun r e => by cases e)
  · rcases h1 with ⟨h3, h4, h5⟩ | ⟨h3, h4⟩
    · refine .inl ⟨h3, ?_⟩
      rw [hn h3]
      exact ⟨h4, h5⟩
    · exact .inr ⟨h3, h4⟩

set_option maxRecDepth 100000 in
set_option maxHeartbeats 2000000 in
theorem iter_in (n : Nat) (hn : 1 ≤ n) (l bt bc ba : Nat) (s : ByteArray) (hs : s.size ≤ 1000000) (J Jx : List Fd → World → Prop) (W : World) (hJ : AbidesFrom W.heap.size J)
    (hY : ∀ pre x W1, J pre W1 → pre.length < s.size + 1 → YieldAt Fence.wide (n - 1) Tryz.prog l #[Fd.enc x] W1 fun e W' =>
      (e = .returned (.bool true) ∧ J (pre ++ [x]) W' ∧ Kp W1 W') ∨ (e = .returned (.bool false) ∧ Jx (pre ++ [x]) W'))
    (hI : Iter s bt bc ba W) (h0 : J [] W) :
    CallsIn Fence.wide n Tryz.prog 70 #[.func (.yield l) #[] #[], .pointer (some ⟨bt, 0, none⟩), .pointer (some ⟨ba, 0, none⟩)] W fun e W' => (∃ v, e = .returned v) ∧
      ((∃ xs, CameAll s.data.toList xs ∧ J xs W') ∨ (∃ pre, Came s.data.toList pre ∧ Jx pre W')) := by
  have HY := hide hY
  have HJ := hide hJ
  clear hY hJ
  refine callsIn_of_wp Tryz.func70 rfl trivial ?_ rfl
  simp only [Tryz.ntmps70, List.size_toArray, List.length_cons, List.length_nil, Nat.reduceAdd, Nat.reduceSub, Array.replicate_succ, Array.replicate_zero, List.push_toArray, List.append_toArray, List.nil_append, List.cons_append]
  refine wpIn_wide.2 ?_
  go_wp2
  go_step3
  go_wp2
  go_step3
  go_wp2
  go_loopw [4] (fun i wr => ∃ (k : Nat) (ts : List Tok), k ≤ s.size ∧ i = .int .i64 k ∧ Hid (Iter s bt bc ba wr) ∧ Hid (J (ts.map Fd.ofTok) wr) ∧ W.heap.size ≤ wr.heap.size ∧
      Hid (scan 0 0 s.data.toList = (ts ++ (scan 0 k (s.data.toList.drop k)).1, (scan 0 k (s.data.toList.drop k)).2))) (fun i _ => s.size - (intOf i).toNat)
  case atStart => exact ⟨0, [], Nat.zero_le _, rfl, hI, h0, Nat.le_refl _, rfl⟩
  case round =>
    clear hI h0
    obtain ⟨k, ts, hk, rfl, hit, hj, hsz, hrel⟩ := hrel
    by_cases hlt : k < s.size
    · have htc := hit.out.boxes.tcell
      have hfc := hit.out.fcell
      unfold atFn at hfc
      have htc' := fun ob => alloc_cell htc ob
      have hfc' := fun ob => alloc_cell hfc ob
      clear htc hfc
      have htc := hit.out.boxes.tcell
      have hit1 : ∀ ob, Iter s bt bc ba (wr.alloc ob) := fun ob => hit.out.below ((Below.refl _ _).alloc (Nat.le_refl _) _)
      have HIT1 := hide hit1
      have hat : ∀ j ob, Calls Tryz.prog 69 #[.int .i64 (j : Nat), .pointer (some ⟨bt, 0, none⟩), .pointer (some ⟨bc, 0, none⟩)] (wr.alloc ob) fun e w' => e = .returned (.int .u8 (clsAt s j)) ∧ (wr.alloc ob) = w' := fun j ob => at_any s j bt bc _ (hit1 ob).boxes
      have HAT := hide hat
      have hatd : ∀ j ob, Calls Tryz.prog 69 #[.int .i64 (j : Nat), .pointer (some ⟨bt, 0, none⟩), .pointer (some ⟨bc, 0, none⟩)] (wr.alloc ob).drew fun e w' => e = .returned (.int .u8 (clsAt s j)) ∧ (wr.alloc ob).drew = w' := fun j ob => at_any s j bt bc _ ((hit1 ob).below (Below.refl _ _).drew).boxes
      have HATD := hide hatd
      clear hat hit1 hatd
      go_upto_block 2 with (go_at_call 69; refine (HAT.out _ _).mono ?_; rintro e w' ⟨rfl, rfl⟩)
      have close := fun (hw : isWord s[k] = true ∨ noGap s[k]) wx x n k' hb hx hk' hn tx ht hcell => Found.of s ts bt bc ba k J W.heap.size wr wx HJ.out hit.out hj.out hlt (hw.elim (word_noGap _) id) hrel.out hb x n k' hx hk' hn tx ht hcell
      have CLOSE := hide close
      clear close
      have HD := hide (drop_cons s k hlt)
      have hcb := clsAt_in s k hlt
      go_cut [4, 6, 21] (fun i f _ wx => ∃ (k' : Nat) (x : Fd), i = .int .i64 k' ∧ f = .pointer (some ⟨wr.heap.size, 0, none⟩) ∧ Hid (Found s ts bt bc ba wr.heap.size k k' J x wx))
      case first =>
        cases hl : isLetter s[k]
        · have n3 : (clsAt s k == 3) = false := by rw [hcb, cls_letter, hl]
          cases hdg : isDigit s[k]
          · have n4 : (clsAt s k == 4) = false := by rw [hcb, cls_digit, hdg]
            have hstay : ∀ ob, J (ts.map Fd.ofTok) (wr.alloc ob) := fun ob => HJ.out _ wr _ none hj.out (World.grownBy_alloc wr ob none) (fun r e => by cases e)
            have HSTAY := hide hstay
            clear hstay
            cases hb : isBlank s[k]
            · have n1 : (clsAt s k == 1) = false := by rw [hcb, cls_blank, hb]
              cases hh : (s[k] == 35)
              · have n2 : (clsAt s k == 2) = false := by rw [hcb, cls_hash, hh]
                have hng : noGap s[k] := ⟨hb, hh⟩
                have HNG := hide hng
                clear hng
                cases hq : (s[k] == 34)
                · have n7 : (clsAt s k == 7) = false := by rw [hcb, cls_quote, hq]
                  cases hsy : isSym s[k]
                  · have n6 : (clsAt s k == 6) = false := by rw [hcb, cls_sym, hsy]
                    have hnx : nextT s[k] (s.data.toList.drop (k + 1)) = .error 3 := by rw [next_rest _ _ hl hdg, hq, hsy]; rfl
                    have HNX := hide hnx
                    clear hcb hl hdg hb hh hq hsy hnx
                    go_wp2_with fail
                    go_meet
                    case rel =>
                      refine ⟨k, ⟨0, [], k, 3⟩, rfl, rfl, ?_⟩
                      exact CLOSE.out (.inr HNG.out) _ _ 0 _ ((Below.refl _ _).alloc (Nat.le_refl _) _) ⟨rfl, .inr ⟨HNX.out, by show (3 : Nat) ≠ 0; decide⟩⟩ hk (fun h => by cases h) _ rfl (heap_alloc_new wr _)
                  · have n6 : (clsAt s k == 6) = true := by rw [hcb, cls_sym, hsy]
                    have hnx : nextT s[k] (s.data.toList.drop (k + 1)) = .ok (4, [s[k]], 1) := by rw [next_rest _ _ hl hdg, hq, hsy]; rfl
                    have HNX := hide hnx
                    have hx : s.extract k (k + 1) = ⟨#[s[k]]⟩ := by
                      refine str_of_list _ _ ?_
                      rw [ext_list, drop_cons s k hlt, show k + 1 - k = 1 by omega]
                      rfl
                    have HX := hide hx
                    have b0 : (0 : Int) ≤ k := by omega
                    have b2 : (k : Int) + 1 ≤ s.size := by omega
                    clear hcb hl hdg hb hh hq hsy hnx hx
                    go_wp2_with fail
                    go_region
                    go_wp2_with fail
                    go_meet
                    case rel =>
                      refine ⟨k + 1, ⟨4, [s[k]], k, 0⟩, by go_num, rfl, ?_⟩
                      refine CLOSE.out (.inr HNG.out) _ _ 1 _ ?_ ⟨rfl, .inl ⟨HNX.out, rfl⟩⟩ (by omega) (fun _ => rfl) _ HX.out (heap_alloc_new wr _)
                      exact ((Below.refl _ _).alloc (Nat.le_refl _) _).drew
                · have n7 : (clsAt s k == 7) = true := by rw [hcb, cls_quote, hq]
                  have hex : (s.extract k s.size).data.toList.drop 1 = s.data.toList.drop (k + 1) := by
                    rw [ext_list, List.take_of_length_le (by rw [List.length_drop, size_list]; omega), List.drop_drop]
                  have hes : (s.extract k s.size).size = s.size - k := by rw [ByteArray.size_extract]; omega
                  have hun := fun ob => unquoted_any (s.extract k s.size) (wr.alloc ob) (by omega) (by omega)
                  rw [hex] at hun
                  have b0 : (0 : Int) ≤ k := by omega
                  have b2 : (k : Int) ≤ s.size := by omega
                  have hnx := next_rest s[k] (s.data.toList.drop (k + 1)) hl hdg
                  rw [hq, if_pos rfl] at hnx
                  cases hstr : str (s.data.toList.drop (k + 1)) with
                  | none =>
                    rw [hstr] at hun hnx
                    have HUN := hide hun
                    have HNX := hide hnx
                    clear hcb hl hdg hb hh hq hnx hun hstr hex hes
                    go_wp2_with (go_at_call 71; refine (HUN.out _).mono ?_; rintro e w2 ⟨rfl, hb2⟩; simp only [unqEnd])
                    go_meet
                    case rel =>
                      refine ⟨k, ⟨0, [], k, 3⟩, rfl, rfl, ?_⟩
                      refine CLOSE.out (.inr HNG.out) _ _ 0 _ ?_ ⟨rfl, .inr ⟨HNX.out, by show (3 : Nat) ≠ 0; decide⟩⟩ hk (fun h => by cases h) _ rfl ((hb2.block _ (by simp)).trans (heap_alloc_new wr _))
                      exact ((Below.refl _ _).alloc (Nat.le_refl _) _).trans (hb2.mono (by simp))
                  | some y =>
                    obtain ⟨tx, m⟩ := y
                    rw [hstr] at hun hnx
                    have HUN := hide hun
                    have HNX := hide hnx
                    have hle : k + (m + 1) ≤ s.size := by
                      have := (str_some _ _ _ false hstr).1 rfl
                      obtain ⟨r, e1, e2⟩ := this
                      have := congrArg List.length e1
                      rw [List.length_drop, size_list] at this
                      simp at this
                      omega
                    clear hcb hl hdg hb hh hq hnx hun hstr hex hes
                    go_wp2_with fail
                    refine (HUN.out _).mono ?_
                    rintro e w2 ⟨rfl, hb2⟩
                    simp only [unqEnd]
                    have hblk : w2.heap[wr.heap.size]? = some (.cells #[.int .i64 0, .string ⟨#[]⟩, .int .i64 (k : Int), .int .i64 3] 100 (0, 0)) := (hb2.block _ (by simp)).trans (heap_alloc_new wr _)
                    have g0 : w2.cell? ⟨wr.heap.size, 0, none⟩ = some (.int .i64 0) := cell_of_row w2 _ 0 _ _ _ hblk
                    have g1 : w2.cell? ⟨wr.heap.size, 1, none⟩ = some (.string ⟨#[]⟩) := cell_of_row w2 _ 1 _ _ _ hblk
                    have g3 : w2.cell? ⟨wr.heap.size, 3, none⟩ = some (.int .i64 3) := cell_of_row w2 _ 3 _ _ _ hblk
                    have z0 : w2.frozen? ⟨wr.heap.size, 0, none⟩ = false := by simp [World.frozen?, hblk]
                    have z1 : w2.frozen? ⟨wr.heap.size, 1, none⟩ = false := by simp [World.frozen?, hblk]
                    have z3 : w2.frozen? ⟨wr.heap.size, 3, none⟩ = false := by simp [World.frozen?, hblk]
                    have HBLK : Hid ((((w2.setCell ⟨wr.heap.size, 0, none⟩ (.int .i64 3)).setCell ⟨wr.heap.size, 1, none⟩ (.string ⟨tx.toArray⟩)).setCell ⟨wr.heap.size, 3, none⟩ (.int .i64 0)).heap[wr.heap.size]? = some (.cells #[.int .i64 3, .string ⟨tx.toArray⟩, .int .i64 (k : Int), .int .i64 0] 100 (0, 0))) := by
                      show _ = _
                      simp [World.setCell, Array.getElem?_modify, hblk]
                    have HB2 := hide (((((Below.refl wr.heap.size wr).alloc (Nat.le_refl _) (.cells #[.int .i64 0, .string ⟨#[]⟩, .int .i64 (k : Int), .int .i64 3] 100)).trans (hb2.mono (by simp))).setCell (p := ⟨wr.heap.size, 0, none⟩) (Nat.le_refl _) (.int .i64 3)).setCell (p := ⟨wr.heap.size, 1, none⟩) (Nat.le_refl _) (.string ⟨tx.toArray⟩) |>.setCell (p := ⟨wr.heap.size, 3, none⟩) (Nat.le_refl _) (.int .i64 0))
                    clear hblk hb2
                    go_wp2_with fail
                    go_meet
                    case rel =>
                      refine ⟨k + (m + 1), ⟨3, tx, k, 0⟩, by go_num, rfl, ?_⟩
                      exact CLOSE.out (.inr HNG.out) _ _ (m + 1) _ HB2.out ⟨rfl, .inl ⟨HNX.out, rfl⟩⟩ hle (fun _ => rfl) _ rfl HBLK.out
              · have n2 : (clsAt s k == 2) = true := by rw [hcb, cls_hash, hh]
                have hc35 : s[k] = 35 := by simpa using hh
                obtain ⟨E, hE⟩ : ∃ E, E = k + 1 + toLine (s.data.toList.drop (k + 1)) := ⟨_, rfl⟩
                have hEle : E ≤ s.size := by
                  have := toLine_le (s.data.toList.drop (k + 1))
                  rw [List.length_drop, size_list] at this
                  omega
                have hkE : k + 1 ≤ E := by omega
                have hsc : Hid (scan 0 0 s.data.toList = (ts ++ (scan 0 E (s.data.toList.drop E)).1, (scan 0 E (s.data.toList.drop E)).2)) := by
                  show _ = _
                  have e := scan_skip (toLine (s.data.toList.drop (k + 1))) (k + 1) (s.data.toList.drop (k + 1))
                  rw [List.drop_drop, ← hE] at e
                  rw [hrel.out, HD.out, hc35, show scan 0 k (35 :: s.data.toList.drop (k + 1)) = scan (toLine (s.data.toList.drop (k + 1))) (k + 1) (s.data.toList.drop (k + 1)) from by simp [scan, isBlank], e]
                have hst : Hid (k + toLine (s.data.toList.drop k) = E) := by
                  show _ = _
                  rw [HD.out, hc35, hE]
                  simp [toLine]; omega
                clear hcb hl hdg hb hh hrel hE hc35
                go_wp2_with fail
                have HCL := hide n1; have HCL2 := hide n2; have HCL3 := hide n3; have HCL4 := hide n4
                clear n1 n2 n3 n4
                go_loop [4] (fun i => ∃ j : Nat, k ≤ j ∧ j ≤ E ∧ i = .int .i64 j ∧ Hid (j + toLine (s.data.toList.drop j) = E)) (fun i => s.size - (intOf i).toNat)
                case atStart => exact ⟨k, Nat.le_refl _, by omega, rfl, hst⟩
                case round =>
                  clear hst
                  obtain ⟨j, hkj, hj, rfl, hr2⟩ := hrel
                  have ln : ∀ c : UInt8, ∀ l : L, toLine (c :: l) = if c == 10 then 0 else toLine l + 1 := by
                    intro c l
                    by_cases h : c = 10
                    · subst h; rfl
                    · have h' : (c == 10) = false := by simpa using h
                      rw [h']; simp [toLine, h]
                  by_cases hlt2 : j < s.size
                  · have hd2 := drop_cons s j hlt2
                    have q2 := u8_eq s[j] 10
                    have hr3 := hr2.out
                    rw [hd2, ln] at hr3
                    cases hn : (s[j] == 10)
                    · rw [hn] at hr3
                      have t2 : ((s[j].toNat : Int) != 10) = true := by show (!((s[j].toNat : Int) == ((10 : UInt8).toNat : Int))) = true; rw [q2, hn]; rfl
                      have hr4 : Hid (j + 1 + toLine (s.data.toList.drop (j + 1)) = E) := by
                        show _ = _
                        simp at hr3
                        omega
                      have hj2 : j + 1 ≤ E := by have := hr4.out; omega
                      clear hr3 hd2 q2 hn ln hr2
                      go_wp2_with fail
                      go_round
                      case rel => exact ⟨j + 1, by omega, by omega, by go_num, hr4⟩
                      case measure => simp [intOf] <;> omega
                    · rw [hn] at hr3
                      have t2 : ((s[j].toNat : Int) != 10) = false := by show (!((s[j].toNat : Int) == ((10 : UInt8).toNat : Int))) = false; rw [q2, hn]; rfl
                      have hjE : Hid (j = E) := by show _ = _; simpa using hr3
                      have hkj2 : k < j := by have := hjE.out; omega
                      have hsc2 : Hid (scan 0 0 s.data.toList = (ts ++ (scan 0 j (s.data.toList.drop j)).1, (scan 0 j (s.data.toList.drop j)).2)) := by
                        show _ = _
                        rw [hjE.out]; exact hsc.out
                      clear hr3 hd2 q2 hn ln hr2
                      go_wp2_with fail
                      go_roundw
                      case rel => exact ⟨j, ts, by omega, rfl, HIT1.out _, HSTAY.out _, by simp; omega, hsc2⟩
                      case measure => simp [intOf]; omega
                  · have hjE : Hid (j = E) := by show _ = _; have := hr2.out; omega
                    have hkj2 : k < j := by have := hjE.out; omega
                    have hsc2 : Hid (scan 0 0 s.data.toList = (ts ++ (scan 0 j (s.data.toList.drop j)).1, (scan 0 j (s.data.toList.drop j)).2)) := by
                      show _ = _
                      rw [hjE.out]; exact hsc.out
                    clear ln hr2
                    go_wp2_with fail
                    go_roundw
                    case rel => exact ⟨j, ts, by omega, rfl, HIT1.out _, HSTAY.out _, by simp; omega, hsc2⟩
                    case measure => simp [intOf]; omega
            · have n1 : (clsAt s k == 1) = true := by rw [hcb, cls_blank, hb]
              have hsc : Hid (scan 0 0 s.data.toList = (ts ++ (scan 0 (k + 1) (s.data.toList.drop (k + 1))).1, (scan 0 (k + 1) (s.data.toList.drop (k + 1))).2)) := by
                show _ = _
                rw [hrel.out, HD.out]
                simp [scan, hb]
              clear hcb hl hdg hb hrel
              go_wp2_with fail
              go_roundw
              case rel => exact ⟨k + 1, ts, by omega, by go_num, HIT1.out _, HSTAY.out _, by simp; omega, hsc⟩
              case measure => simp [intOf]; omega
          · have hcl : clsAt s k = 4 := by
              have := cls_digit s[k]
              rw [hdg, beq_iff_eq] at this
              rw [hcb, this]
            obtain ⟨N, hN⟩ : ∃ N, N = twl isDigit (s.data.toList.drop (k + 1)) := ⟨_, rfl⟩
            have hNle : k + 1 + N ≤ s.size := by
              have := twl_le isDigit (s.data.toList.drop (k + 1))
              rw [← hN, List.length_drop, size_list] at this
              omega
            have htx := hide (word_text s k N hlt isDigit hN)
            have hNk : Hid (twl isDigit (s.data.toList.drop k) = N + 1) := by
              show _ = _
              rw [HD.out, twl_yes _ _ _ hdg, hN]
            have hdw : Hid ((s.data.toList.drop (k + 1)).dropWhile isDigit = s.data.toList.drop (k + 1 + N)) := by
              show _ = _
              rw [← drop_twl, ← hN, List.drop_drop]
            have HL := hide hl
            have HDG := hide hdg
            have HN := hide hN
            have HCB := hide hcb
            clear hcb hl hdg hN n3
            go_wp2_with fail
            have HCL := hide hcl
            clear hcl
            go_loop [4] (fun i => ∃ j : Nat, k ≤ j ∧ j ≤ k + 1 + N ∧ i = .int .i64 j ∧ Hid (j + twl isDigit (s.data.toList.drop j) = k + 1 + N)) (fun i => s.size - (intOf i).toNat)
            case atStart => exact ⟨k, by omega, by omega, rfl, by show _ = _; rw [hNk.out]; omega⟩
            case round =>
              obtain ⟨j, hkj, hj, rfl, hr2⟩ := hrel
              by_cases hend : j = k + 1 + N
              · have c4 : (clsAt s j == 4) = false := by
                  by_cases h : j < s.size
                  · rw [clsAt_in s _ h, cls_digit]
                    have := (twl_zero isDigit (s.data.toList.drop j)).1 (by have := hr2.out; omega)
                    exact this _ _ (drop_cons s _ h)
                  · rw [clsAt_out s _ h]; rfl
                have haw := at_word s j
                rw [c4, Bool.or_false] at haw
                have hhw : Hid ((decide (j < s.size) && headWord (s.data.toList.drop j)) = headWord (s.data.toList.drop j)) := by
                  show _ = _
                  by_cases h : j < s.size
                  · simp [h]
                  · rw [drop_end s _ h]; simp [headWord]
                rw [hhw.out] at haw
                have HAW := hide haw
                clear hr2 haw hhw
                have htx2 : Hid (s.extract k j = ⟨(s[k] :: (s.data.toList.drop (k + 1)).takeWhile isDigit).toArray⟩) := by show _ = _; rw [hend]; exact htx.out
                have hbad : 7 < N + 1 ∨ headWord (s.data.toList.drop j) = true → Hid (nextT s[k] (s.data.toList.drop (k + 1)) = .error 4) := by
                  intro h
                  show _ = _
                  rw [next_digit _ _ HL.out HDG.out, ← HN.out, hdw.out, if_pos]
                  rw [hend] at h
                  simpa using h
                have hgood : ¬ 7 < N + 1 → headWord (s.data.toList.drop j) = false → Hid (nextT s[k] (s.data.toList.drop (k + 1)) = .ok (2, s[k] :: (s.data.toList.drop (k + 1)).takeWhile isDigit, N + 1)) := by
                  intro h h'
                  show _ = _
                  rw [hend] at h'
                  rw [next_digit _ _ HL.out HDG.out, ← HN.out, hdw.out, h', if_neg]
                  simp
                  omega
                have HBAD := hide hbad
                have HGOOD := hide hgood
                have e1 : j ≤ k + 1 + N := by omega
                have e2 : k + 1 + N ≤ j := by omega
                have HEND := hide hend
                have b0 : (0 : Int) ≤ k := by omega
                have b1 : (k : Int) ≤ j := by omega
                have b2 : (j : Int) ≤ s.size := by omega
                clear hbad hgood hend
                by_cases h7 : 7 < N + 1
                · have HNX := HBAD.out (.inl h7)
                  clear HBAD HGOOD HAW
                  go_wp2_with (go_at_call 69; refine (HAT.out _ _).mono ?_; rintro e w' ⟨rfl, rfl⟩)
                  go_region
                  go_wp2_with (go_at_call 69; refine (HATD.out _ _).mono ?_; rintro e w' ⟨rfl, rfl⟩)
                  go_meet
                  case rel =>
                    refine ⟨j, ⟨2, s[k] :: (s.data.toList.drop (k + 1)).takeWhile isDigit, k, 4⟩, rfl, rfl, ?_⟩
                    refine CLOSE.out (.inl (digit_word _ HDG.out)) _ _ (N + 1) _ ?_ ⟨rfl, .inr ⟨HNX.out, by show (4 : Nat) ≠ 0; decide⟩⟩ (by omega) (fun h => by cases h) _ htx2.out (heap_alloc_new wr _)
                    exact ((Below.refl _ _).alloc (Nat.le_refl _) _).drew
                · cases hw : headWord (s.data.toList.drop j)
                  · have HNX := HGOOD.out h7 hw
                    have c35 := HAW.out
                    rw [hw, Bool.or_eq_false_iff] at c35
                    obtain ⟨c3, c5⟩ := c35
                    clear HBAD HGOOD HAW hw
                    go_wp2_with (go_at_call 69; refine (HAT.out _ _).mono ?_; rintro e w' ⟨rfl, rfl⟩)
                    go_region
                    go_wp2_with (go_at_call 69; refine (HATD.out _ _).mono ?_; rintro e w' ⟨rfl, rfl⟩)
                    go_meet
                    case rel =>
                      refine ⟨j, ⟨2, s[k] :: (s.data.toList.drop (k + 1)).takeWhile isDigit, k, 0⟩, rfl, rfl, ?_⟩
                      refine CLOSE.out (.inl (digit_word _ HDG.out)) _ _ (N + 1) _ ?_ ⟨rfl, .inl ⟨HNX.out, rfl⟩⟩ (by omega) (fun _ => by omega) _ htx2.out (heap_alloc_new wr _)
                      exact ((Below.refl _ _).alloc (Nat.le_refl _) _).drew
                  · have HNX := HBAD.out (.inr hw)
                    have c35 := HAW.out
                    rw [hw] at c35
                    clear HBAD HGOOD HAW hw
                    cases c3 : (clsAt s j == 3)
                    all_goals
                      rw [c3] at c35
                      first | (rw [Bool.false_or] at c35) | clear c35
                      go_wp2_with (go_at_call 69; refine (HAT.out _ _).mono ?_; rintro e w' ⟨rfl, rfl⟩)
                      go_region
                      go_wp2_with (go_at_call 69; refine (HATD.out _ _).mono ?_; rintro e w' ⟨rfl, rfl⟩)
                      go_meet
                      case rel =>
                        refine ⟨j, ⟨2, s[k] :: (s.data.toList.drop (k + 1)).takeWhile isDigit, k, 4⟩, rfl, rfl, ?_⟩
                        refine CLOSE.out (.inl (digit_word _ HDG.out)) _ _ (N + 1) _ ?_ ⟨rfl, .inr ⟨HNX.out, by show (4 : Nat) ≠ 0; decide⟩⟩ (by omega) (fun h => by cases h) _ htx2.out (heap_alloc_new wr _)
                        exact ((Below.refl _ _).alloc (Nat.le_refl _) _).drew
              · have hlt2 : j < s.size := by omega
                have c4 : (clsAt s j == 4) = true := by
                  rw [clsAt_in s _ hlt2, cls_digit]
                  cases h : isDigit s[j]
                  · have := hr2.out
                    rw [drop_cons s _ hlt2, twl_no _ _ _ h] at this
                    omega
                  · rfl
                have hnext : Hid (j + 1 + twl isDigit (s.data.toList.drop (j + 1)) = k + 1 + N) := by
                  show _ = _
                  have := hr2.out
                  rw [clsAt_in s _ hlt2, cls_digit] at c4
                  rw [drop_cons s j hlt2, twl_yes _ _ _ c4] at this
                  omega
                clear hr2
                go_wp2_with (go_at_call 69; refine (HAT.out _ _).mono ?_; rintro e w' ⟨rfl, rfl⟩)
                go_round
                case rel => exact ⟨j + 1, by omega, by omega, by go_num, hnext⟩
                case measure => simp [intOf] <;> omega
        · have hcl : clsAt s k = 3 := by
            have := cls_letter s[k]
            rw [hl, beq_iff_eq] at this
            rw [hcb, this]
          obtain ⟨N, hN⟩ : ∃ N, N = twl isWord (s.data.toList.drop (k + 1)) := ⟨_, rfl⟩
          have hNle : k + 1 + N ≤ s.size := by
            have := twl_le isWord (s.data.toList.drop (k + 1))
            rw [← hN, List.length_drop, size_list] at this
            omega
          have htx := hide (word_text s k N hlt isWord hN)
          have hNk : Hid (twl isWord (s.data.toList.drop k) = N + 1) := by
            show _ = _
            rw [HD.out, twl_yes _ _ _ (letter_word _ hl), hN]
          have HL := hide hl
          have HN := hide hN
          have HCB := hide hcb
          clear hcb hl hN
          go_wp2_with (go_at_call 69; refine (HAT.out _ _).mono ?_; rintro e w' ⟨rfl, rfl⟩)
          go_loop [4, 7] (fun i c => ∃ j : Nat, k ≤ j ∧ j ≤ k + 1 + N ∧ i = .int .i64 j ∧ c = .int .u8 (clsAt s j) ∧ Hid (j + twl isWord (s.data.toList.drop j) = k + 1 + N)) (fun i _ => s.size - (intOf i).toNat)
          case atStart => exact ⟨k, by omega, by omega, rfl, by rw [hcl], by show _ = _; rw [hNk.out]; omega⟩
          case round =>
            obtain ⟨j, hkj, hj, rfl, rfl, hr2⟩ := hrel
            have haw := at_word s j
            by_cases hend : j = k + 1 + N
            · subst hend
              have hw0 := head_of_twl (s.data.toList.drop (k + 1 + N)) (by have := hr2.out; omega)
              rw [hw0, Bool.and_false, Bool.or_eq_false_iff, Bool.or_eq_false_iff] at haw
              obtain ⟨⟨c3, c4⟩, c5⟩ := haw
              clear hw0 hr2
              have b0 : (0 : Int) ≤ k := by omega
              have b1 : (k : Int) ≤ (k : Int) + 1 + N := by omega
              have b2 : (k : Int) + 1 + N ≤ s.size := by omega
              by_cases h24 : 24 < N + 1
              · go_wp2_with fail
                go_region
                go_wp2
                go_meet
                case rel =>
                  refine ⟨k + 1 + N, ⟨1, s[k] :: (s.data.toList.drop (k + 1)).takeWhile isWord, k, 2⟩, by go_num, rfl, ?_⟩
                  refine CLOSE.out (.inl (letter_word _ HL.out)) _ _ (N + 1) _ ?_ ⟨rfl, .inr ⟨?_, Nat.succ_ne_zero 1⟩⟩ (by omega) (fun h => by cases h) _ htx.out (heap_alloc_new wr _)
                  · exact ((Below.refl _ _).alloc (Nat.le_refl _) _).drew
                  · rw [next_letter _ _ HL.out, ← HN.out, if_pos h24]
              · go_wp2_with fail
                go_region
                go_wp2
                go_meet
                case rel =>
                  refine ⟨k + 1 + N, ⟨1, s[k] :: (s.data.toList.drop (k + 1)).takeWhile isWord, k, 0⟩, by go_num, rfl, ?_⟩
                  refine CLOSE.out (.inl (letter_word _ HL.out)) _ _ (N + 1) _ ?_ ⟨rfl, .inl ⟨?_, rfl⟩⟩ (by omega) (fun _ => by omega) _ htx.out (heap_alloc_new wr _)
                  · exact ((Below.refl _ _).alloc (Nat.le_refl _) _).drew
                  · rw [next_letter _ _ HL.out, ← HN.out, if_neg h24]
            · have hlt2 : j < s.size := by omega
              have hw1 : headWord (s.data.toList.drop j) = true := head_of_twl' _ (by have := hr2.out; omega)
              rw [hw1, decide_eq_true hlt2, Bool.and_true] at haw
              have hnext : Hid (j + 1 + twl isWord (s.data.toList.drop (j + 1)) = k + 1 + N) := by
                show _ = _
                have e := drop_cons s j hlt2
                have := hr2.out
                rw [e] at hw1 this
                rw [twl_yes _ _ _ hw1] at this
                omega
              clear hw1 hr2
              cases c3 : (clsAt s j == 3)
              · cases c4 : (clsAt s j == 4)
                · rw [c3, c4, Bool.false_or, Bool.false_or] at haw
                  go_wp2_with (go_at_call 69; refine (HAT.out _ _).mono ?_; rintro e w' ⟨rfl, rfl⟩)
                  go_round
                  case rel => exact ⟨j + 1, by omega, by omega, by go_num, rfl, hnext⟩
                  case measure => simp [intOf]; omega
                · clear haw
                  go_wp2_with (go_at_call 69; refine (HAT.out _ _).mono ?_; rintro e w' ⟨rfl, rfl⟩)
                  go_round
                  case rel => exact ⟨j + 1, by omega, by omega, by go_num, rfl, hnext⟩
                  case measure => simp [intOf]; omega
              · clear haw
                go_wp2_with (go_at_call 69; refine (HAT.out _ _).mono ?_; rintro e w' ⟨rfl, rfl⟩)
                go_round
                case rel => exact ⟨j + 1, by omega, by omega, by go_num, rfl, hnext⟩
                case measure => simp [intOf]; omega
      case rest =>
        clear HAT HATD CLOSE HIT1 hit hj htc htc' hfc' hcb HD hrel
        obtain ⟨k', x, rfl, rfl, hF⟩ := hcut
        have hF' := hF.out
        have hblk := hF'.cell
        have hlen : (ts.map Fd.ofTok).length < s.size + 1 := by
          have h1 := scan_sizes 0 s.data.toList
          rw [size_list] at h1
          rcases hF'.step with ⟨_, _, h3⟩ | ⟨_, h3⟩ <;> rw [h3] at h1 <;> simp at h1 ⊢ <;> omega
        obtain ⟨fn, tmps, assign, body, hy, hR⟩ := HY.out (ts.map Fd.ofTok) x wc hF'.came hlen
        unfold Fd.enc at hy
        have g0 : wc.cell? ⟨wr.heap.size, 0, none⟩ = some (.int .i64 (x.kind : Int)) := cell_of_row wc _ 0 _ _ _ hblk
        have g1 : wc.cell? ⟨wr.heap.size, 1, none⟩ = some (.string ⟨x.text.toArray⟩) := cell_of_row wc _ 1 _ _ _ hblk
        have g2 : wc.cell? ⟨wr.heap.size, 2, none⟩ = some (.int .i64 (x.off : Int)) := cell_of_row wc _ 2 _ _ _ hblk
        have g3 : wc.cell? ⟨wr.heap.size, 3, none⟩ = some (.int .i64 (x.err : Int)) := cell_of_row wc _ 3 _ _ _ hblk
        have HR := hide hR
        have HBL := hide hblk
        clear hF' hblk hR
        go_step
        refine (wpIn_wide (n := n)).1 ?_
        gi_wp2
        refine HR.out.mono ?_
        rintro e W3 (⟨rfl, hJ3, hk3⟩ | ⟨rfl, hJx3⟩)
        · have hb3 := hk3.2 _ _ _ _ (.inr (.inr (.inr rfl))) HBL.out
          have e3 : W3.cell? ⟨wr.heap.size, 3, none⟩ = some (.int .i64 (x.err : Int)) := cell_of_row W3 _ 3 _ _ _ hb3
          have HJ3 := hide hJ3
          have HK3 := hide hk3
          clear hb3 hJ3 hk3
          by_cases he : x.err = 0
          · have t3 : ((x.err : Int) != 0) = false := by rw [he]; rfl
            have HE := hide he
            clear he
            gi_wp2
            go_roundw
            case rel =>
              obtain ⟨_, h2, h3⟩ := (hF.out.step).resolve_right (fun h => h.1 HE.out)
              refine ⟨k', ts ++ [⟨x.kind, x.text, x.off⟩], hF.out.le, rfl, HK3.out.iter hF.out.iter, ?_, ?_, ?_⟩
              · show J _ _
                have hx : x = Fd.ofTok ⟨x.kind, x.text, x.off⟩ := by
                  have := HE.out
                  cases x
                  simp only at this
                  subst this
                  rfl
                rw [List.map_append, List.map_cons, List.map_nil, ← hx]
                exact HJ3.out
              · have h4 : wr.heap.size < wc.heap.size := (Array.getElem?_eq_some_iff.1 HBL.out).1
                have h5 := HK3.out.1
                omega
              · show _ = _
                rw [h3]
                simp
            case measure =>
              obtain ⟨_, h2, h3⟩ := (hF.out.step).resolve_right (fun h => h.1 HE.out)
              have := hF.out.le
              simp [intOf]; omega
          · have t3 : ((x.err : Int) != 0) = true := by rw [bne_iff_ne]; omega
            have HE := hide he
            clear he
            gi_wp2
            rw [Exit.noGoto_ret]
            refine bodyPost_ret (results_none rfl _ _ _) rfl ?_
            have h3 := ((hF.out.step).resolve_left (fun h => HE.out h.1)).2
            exact ⟨⟨_, rfl⟩, .inl ⟨_, .inr ⟨ts, x, rfl, HE.out, h3⟩, HJ3.out⟩⟩
        · have HJX := hide hJx3
          clear hJx3
          gi_wp2
          rw [Exit.noGoto_ret]
          refine bodyPost_ret (results_none rfl _ _ _) rfl ?_
          refine ⟨⟨_, rfl⟩, .inr ⟨_, ?_, HJX.out⟩⟩
          rcases hF.out.step with ⟨h1, _, h3⟩ | ⟨h1, h3⟩
          · refine .inl ⟨ts ++ [⟨x.kind, x.text, x.off⟩], (scan 0 k' (s.data.toList.drop k')).1, (scan 0 k' (s.data.toList.drop k')).2, ?_, by rw [h3]; simp⟩
            cases x
            simp only at h1
            subst h1
            simp [Fd.ofTok]
          · exact .inr ⟨ts, x, rfl, h1, h3⟩
    · have hall : scan 0 0 s.data.toList = (ts, none) := by
        rw [hrel.out, drop_end s k hlt, scan_nil]; simp
      have HALL := hide hall
      have htc := hit.out.boxes.tcell
      clear hall
      go_wp2
      rw [Exit.noGoto_normal]
      go_end0
      exact ⟨⟨_, rfl⟩, .inl ⟨_, .inl ⟨ts, rfl, HALL.out⟩, hj.out⟩⟩
