/-
  Tokens in memory: when two are equal; a slice of tokens read as a list; the reference's Same and Alike, walked.
-/
import Derived.Test.YtpgjlhhdmblfaaaLexD
import Derived.Deep.QuietTactic
import Derived.BigQuiet
namespace Go.Proofs.Ytpgjlhhdmblfaaa
open Go.RowKit Go.Proofs.PlLex

theorem below_drewN' {B : Nat} {a w : World} (h : Below B a w) (n : Nat) : Below B a (w.drewN n) := ⟨h.os, h.tape, h.output, h.size, h.block⟩

/-- Are two tokens equal, by their cells? -/
def tokEq (k1 a1 : Int) (s1 : ByteArray) (k2 a2 : Int) (s2 : ByteArray) : Bool := k1 == k2 && (s1.toList == s2.toList && a1 == a2)

@[go_sem ↓] theorem eqTok (k1 a1 : Int) (s1 : ByteArray) (k2 a2 : Int) (s2 : ByteArray) (w : World) :
    (Op.equalIn 10000 31 (.agg #[.int .i64 k1, .string s1, .int .i64 a1]) (.agg #[.int .i64 k2, .string s2, .int .i64 a2])).run Try.prog w = .ok (tokEq k1 a1 s1 k2 a2 s2) w := by
  have u3 := Try.underlying3
  have u9 := Try.underlying9
  have a3 := Try.isAgg3
  have z3 := Try.sizeOf3
  have a9 := Try.isAgg9
  have z9 := Try.sizeOf9
  have hS : Try.prog.underlying 31 = some (.struct (Try.prog.fieldsOf 31)) := by kernel_rfl
  have hp : Try.prog.stoodInHeld 31 = false := by kernel_rfl
  rw [show (10000 : Nat) = 9999 + 1 from rfl, run_equalIn_agg w 9999 31 _ _ hS hp]
  simp only [Program.fieldsOf, Try.underlying31]
  go_simp
  unfold tokEq
  by_cases h1 : k1 = k2 <;> by_cases h2 : s1.toList = s2.toList <;> by_cases h3 : a1 = a2 <;> simp [h1, h2, h3]

@[go_sem] theorem guardTok (op : BinOp) (x y : Operand) (xs ys : Array Value) (w : World) : (eqGuard op 31 x y (.agg xs) (.agg ys)).run Try.prog w = .ok () w :=
  run_eqGuard_agg w op 31 x y xs ys (by kernel_rfl)

/-- From block g, offset o on: tokens. -/
def TokAt (w : World) (g o : Nat) (ts : List Tok) : Prop :=
  ∀ i t, ts[i]? = some t → w.cell? ⟨g, o + i * 3, none⟩ = some (.int .i64 (t.kind : Int)) ∧ w.cell? ⟨g, o + i * 3 + 1, none⟩ = some (.string ⟨t.text.toArray⟩) ∧
    w.cell? ⟨g, o + i * 3 + 2, none⟩ = some (.int .i64 (t.off : Int)) ∧ t.off ≤ 1000000

/-- A slice of tokens, as it lies in memory. -/
def TokS (w : World) (v : Value) (ts : List Tok) : Prop :=
  ts.length ≤ 1000000 ∧ ((ts = [] ∧ ∃ A c, v = .slice A 0 c) ∨ ∃ g o c, v = .slice (some ⟨g, o, none⟩) ts.length c ∧ g < w.heap.size ∧ TokAt w g o ts)

theorem TokAt.below {w w' : World} {g o : Nat} {ts : List Tok} (h : TokAt w g o ts) (hg : g < w.heap.size) (hb : Below w.heap.size w w') : TokAt w' g o ts := by
  intro i t ht
  obtain ⟨h1, h2, h3, h4⟩ := h i t ht
  exact ⟨(hb.cell (p := ⟨g, _, none⟩) hg).trans h1, (hb.cell (p := ⟨g, _, none⟩) hg).trans h2, (hb.cell (p := ⟨g, _, none⟩) hg).trans h3, h4⟩
theorem TokS.below {w w' : World} {v : Value} {ts : List Tok} (h : TokS w v ts) (hb : Below w.heap.size w w') : TokS w' v ts := by
  obtain ⟨hl, h⟩ := h
  refine ⟨hl, ?_⟩
  rcases h with h | ⟨g, o, c, h1, h2, h3⟩
  · exact .inl h
  · exact .inr ⟨g, o, c, h1, Nat.lt_of_lt_of_le h2 hb.size, h3.below h2 hb⟩

def sameTok (d : Int) (x y : Tok) : Bool := tokEq x.kind (x.off + d) ⟨x.text.toArray⟩ y.kind y.off ⟨y.text.toArray⟩
def sameL (d : Int) : List Tok → List Tok → Bool
  | [], [] => true
  | x :: a, y :: b => sameTok d x y && sameL d a b
  | _, _ => false
theorem sameL_len (d : Int) (a b : List Tok) (h : a.length ≠ b.length) : sameL d a b = false := by
  induction a generalizing b with
  | nil => cases b with
    | nil => exact absurd rfl h
    | cons y b => rfl
  | cons x a ih => cases b with
    | nil => rfl
    | cons y b => simp only [sameL, ih b (by simpa using h), Bool.and_false]
theorem drop_tok (ts : List Tok) (k : Nat) (h : k < ts.length) : ts.drop k = ts[k] :: ts.drop (k + 1) := List.drop_eq_getElem_cons h

theorem alloc_cell {w : World} {a : Addr} {u : Value} (h : w.cell? a = some u) (ob : Obj) : (w.alloc ob).cell? a = some u :=
  (World.cell?_alloc_lt w ob a (by
    rcases Nat.lt_or_ge a.block w.heap.size with h1 | h1
    · exact h1
    · have : w.cell? a = none := by unfold World.cell?; simp [Array.getElem?_eq_none h1]
      rw [this] at h; cases h)).trans h

set_option maxHeartbeats 1000000 in
theorem same_run (g o g2 o2 c c2 : Nat) (a b : List Tok) (d : Int) (w : World) (hab : a.length = b.length) (ha : a.length ≤ 1000000) (hd1 : -1000000 ≤ d) (hd2 : d ≤ 1000000)
    (hg : g < w.heap.size) (hg2 : g2 < w.heap.size) (h1 : TokAt w g o a) (h2 : TokAt w g2 o2 b) :
    Calls Try.prog 14 #[.slice (some ⟨g, o, none⟩) a.length c, .int .i64 d, .slice (some ⟨g2, o2, none⟩) b.length c2] w fun e w' => e = .returned (.bool (sameL d a b)) ∧ Below w.heap.size w w' := by
  obtain ⟨R, hR⟩ : ∃ R, R = sameL d a b := ⟨_, rfl⟩
  rw [← hR]
  have HR := hide hR
  have H1 := hide h1
  have H2 := hide h2
  clear h1 h2 hR
  obtain ⟨n, hn⟩ : ∃ n, n = a.length := ⟨_, rfl⟩
  rw [← hab, ← hn]
  have hna : n ≤ a.length := by omega
  have hna' : a.length ≤ n := by omega
  have hnb : n ≤ b.length := by omega
  have hnb' : b.length ≤ n := by omega
  clear hab hn
  go_enter Try.func14, Try.ntmps14
  go_wp2
  go_loopw [7] (fun i wr => ∃ k : Nat, k ≤ n ∧ i = .int .i64 k ∧ Below w.heap.size w wr ∧ Hid (sameL d (a.drop k) (b.drop k) = R)) (fun i _ => n - (intOf i).toNat)
  case atStart => exact ⟨0, Nat.zero_le _, rfl, Below.refl _ _, HR.out.symm⟩
  case round =>
    obtain ⟨k, hk, rfl, hb, hrel⟩ := hrel
    by_cases hlt : k < n
    · have hka : k < a.length := by omega
      have hkb : k < b.length := by omega
      have HA := hide (drop_tok a k hka)
      have HB := hide (drop_tok b k hkb)
      obtain ⟨k1, k2, k3, k4⟩ := (H1.out.below hg hb) k a[k] (List.getElem?_eq_getElem hka)
      obtain ⟨j1, j2, j3, j4⟩ := (H2.out.below hg2 hb) k b[k] (List.getElem?_eq_getElem hkb)
      generalize a[k] = t at *
      generalize b[k] = u at *
      have m1 := alloc_cell j1
      have m2 := alloc_cell j2
      have m3 := alloc_cell j3
      have b1 : (0 : Int) ≤ k := by omega
      have b2 : (k : Int) < n := by omega
      clear j1 j2 j3 hka hkb
      cases hq : sameTok d t u
      all_goals
        have hs := hide (show sameL d (t :: a.drop (k + 1)) (u :: b.drop (k + 1)) = R from by rw [← HA.out, ← HB.out]; exact hrel.out)
        have HQ := hide hq
        unfold sameTok at hq
        clear HA HB hrel
        go_wp2
        go_quiet (fail)
        go_wp2
      · go_ret
        refine ⟨ret_bool ?_, ?_⟩
        · rw [← hs.out, sameL, HQ.out]; rfl
        · exact below_drewN' (hb.alloc hb.size _) _
      · go_roundw
        case rel =>
          refine ⟨k + 1, by omega, by go_num, below_drewN' (hb.alloc hb.size _) _, ?_⟩
          show _ = _
          rw [← hs.out, sameL, HQ.out]; rfl
        case measure => simp [intOf]; omega
    · go_wp2
      go_ret
      refine ⟨ret_bool ?_, hb⟩
      rw [← hrel.out, List.drop_eq_nil_of_le (by omega), List.drop_eq_nil_of_le (by omega)]
      rfl

theorem same_any (v1 v2 : Value) (a b : List Tok) (d : Int) (w : World) (hd1 : -1000000 ≤ d) (hd2 : d ≤ 1000000) (h1 : TokS w v1 a) (h2 : TokS w v2 b) :
    Calls Try.prog 14 #[v1, .int .i64 d, v2] w fun e w' => e = .returned (.bool (sameL d a b)) ∧ Below w.heap.size w w' := by
  by_cases hab : a.length = b.length
  · obtain ⟨ha, h1⟩ := h1
    obtain ⟨hb, h2⟩ := h2
    have zero : ∀ A c A' c', Calls Try.prog 14 #[.slice A 0 c, .int .i64 d, .slice A' 0 c'] w fun e w' => e = .returned (.bool true) ∧ Below w.heap.size w w' := by
      intro A c A' c'
      go_enter Try.func14, Try.ntmps14
      go_wp2
      go_loop [7] (fun i => i = .int .i64 0) (fun i => 0)
      case atStart => rfl
      case round =>
        obtain rfl := hrel
        go_wp2
        go_ret
        exact ⟨rfl, Below.refl _ _⟩
    rcases h1 with ⟨rfl, A, c, rfl⟩ | ⟨g, o, c, rfl, hg, h1⟩
    · rcases h2 with ⟨rfl, A', c', rfl⟩ | ⟨g', o', c', rfl, hg', h2⟩
      · exact zero A c A' c'
      · obtain rfl : b = [] := by simpa using hab.symm
        exact zero A c (some _) c'
    · rcases h2 with ⟨rfl, A', c', rfl⟩ | ⟨g', o', c', rfl, hg', h2⟩
      · obtain rfl : a = [] := by simpa using hab
        exact zero (some _) c A' c'
      · exact same_run g o g' o' c c' a b d w hab ha hd1 hd2 hg hg' h1 h2
  · obtain ⟨ha, h1⟩ := h1
    obtain ⟨hb, h2⟩ := h2
    rw [sameL_len d a b hab]
    have e1 : ∃ A c, v1 = .slice A a.length c := by
      rcases h1 with ⟨rfl, A, c, rfl⟩ | ⟨g, o, c, rfl, _, _⟩
      · exact ⟨A, c, rfl⟩
      · exact ⟨_, _, rfl⟩
    have e2 : ∃ A c, v2 = .slice A b.length c := by
      rcases h2 with ⟨rfl, A, c, rfl⟩ | ⟨g, o, c, rfl, _, _⟩
      · exact ⟨A, c, rfl⟩
      · exact ⟨_, _, rfl⟩
    obtain ⟨A, c, rfl⟩ := e1
    obtain ⟨A', c', rfl⟩ := e2
    clear h1 h2
    have hne : (((a.length : Int)) != (b.length : Int)) = true := by rw [bne_iff_ne]; omega
    have hne2 : (a.length == b.length) = false := by simpa using hab
    clear hab
    go_enter Try.func14, Try.ntmps14
    go_wp2
    go_ret
    exact ⟨rfl, Below.refl _ _⟩

def alikeTok (x y : Tok) : Bool := x.kind == y.kind && x.text == y.text
def alikeL : List Tok → List Tok → Bool
  | [], [] => true
  | x :: a, y :: b => alikeTok x y && alikeL a b
  | _, _ => false
theorem alikeL_len (a b : List Tok) (h : a.length ≠ b.length) : alikeL a b = false := by
  induction a generalizing b with
  | nil => cases b with
    | nil => exact absurd rfl h
    | cons y b => rfl
  | cons x a ih => cases b with
    | nil => rfl
    | cons y b => simp only [alikeL, ih b (by simpa using h), Bool.and_false]
theorem toList_arr (l : L) : (ByteArray.mk l.toArray).toList = l := by rw [ByteArray.toList_eq]

set_option maxHeartbeats 2000000 in
theorem alike_run (g o g2 o2 c c2 : Nat) (a b : List Tok) (w : World) (hab : a.length = b.length) (ha : a.length ≤ 1000000)
    (hg : g < w.heap.size) (hg2 : g2 < w.heap.size) (h1 : TokAt w g o a) (h2 : TokAt w g2 o2 b) :
    Calls Try.prog 21 #[.slice (some ⟨g, o, none⟩) a.length c, .slice (some ⟨g2, o2, none⟩) b.length c2] w fun e w' => e = .returned (.bool (alikeL a b)) ∧ Below w.heap.size w w' := by
  obtain ⟨R, hR⟩ : ∃ R, R = alikeL a b := ⟨_, rfl⟩
  rw [← hR]
  have HR := hide hR
  have H1 := hide h1
  have H2 := hide h2
  clear h1 h2 hR
  obtain ⟨n, hn⟩ : ∃ n, n = a.length := ⟨_, rfl⟩
  rw [← hab, ← hn]
  have hna : n ≤ a.length := by omega
  have hna' : a.length ≤ n := by omega
  have hnb : n ≤ b.length := by omega
  have hnb' : b.length ≤ n := by omega
  clear hab hn
  go_enter Try.func21, Try.ntmps21
  go_wp2
  go_loopw [5] (fun i wr => ∃ k : Nat, k ≤ n ∧ i = .int .i64 k ∧ Below w.heap.size w wr ∧ Hid (alikeL (a.drop k) (b.drop k) = R)) (fun i _ => n - (intOf i).toNat)
  case atStart => exact ⟨0, Nat.zero_le _, rfl, Below.refl _ _, HR.out.symm⟩
  case round =>
    obtain ⟨k, hk, rfl, hb, hrel⟩ := hrel
    by_cases hlt : k < n
    · have hka : k < a.length := by omega
      have hkb : k < b.length := by omega
      have HA := hide (drop_tok a k hka)
      have HB := hide (drop_tok b k hkb)
      obtain ⟨k1, k2, k3, k4⟩ := (H1.out.below hg hb) k a[k] (List.getElem?_eq_getElem hka)
      obtain ⟨j1, j2, j3, j4⟩ := (H2.out.below hg2 hb) k b[k] (List.getElem?_eq_getElem hkb)
      generalize a[k] = t at *
      generalize b[k] = u at *
      have b1 : (0 : Int) ≤ k := by omega
      have b2 : (k : Int) < n := by omega
      clear hka hkb
      have hs := hide (show alikeL (t :: a.drop (k + 1)) (u :: b.drop (k + 1)) = R from by rw [← HA.out, ← HB.out]; exact hrel.out)
      clear HA HB hrel
      by_cases hq1 : t.kind = u.kind
      · have h1 : (((t.kind : Int)) != (u.kind : Int)) = false := by rw [hq1]; simp
        have HK : Hid ((t.kind == u.kind) = true) := by show _ = _; simpa using hq1
        clear hq1
        by_cases hq2 : t.text = u.text
        · have h2 : (t.text == u.text) = true := by simpa using hq2
          have HT : Hid ((t.text == u.text) = true) := by show _ = _; simpa using hq2
          clear hq2
          go_wp2
          go_quiet (fail)
          go_wp2
          go_roundw
          case rel =>
            refine ⟨k + 1, by omega, by go_num, below_drewN' hb _, ?_⟩
            show _ = _
            rw [← hs.out, alikeL, alikeTok, HK.out, HT.out]; rfl
          case measure => simp [intOf]; omega
        · have h2 : (t.text == u.text) = false := by simpa using hq2
          have HT : Hid ((t.text == u.text) = false) := by show _ = _; simpa using hq2
          clear hq2
          go_wp2
          go_quiet (fail)
          go_wp2
          go_ret
          refine ⟨ret_bool ?_, below_drewN' hb _⟩
          rw [← hs.out, alikeL, alikeTok, HK.out, HT.out]; rfl
      · have h1 : (((t.kind : Int)) != (u.kind : Int)) = true := by rw [bne_iff_ne]; omega
        have HK : Hid ((t.kind == u.kind) = false) := by show _ = _; simpa using hq1
        clear hq1
        go_wp2
        go_quiet (fail)
        go_wp2
        go_ret
        refine ⟨ret_bool ?_, below_drewN' hb _⟩
        rw [← hs.out, alikeL, alikeTok, HK.out]; rfl
    · go_wp2
      go_ret
      refine ⟨ret_bool ?_, hb⟩
      rw [← hrel.out, List.drop_eq_nil_of_le (by omega), List.drop_eq_nil_of_le (by omega)]
      rfl

theorem alike_any (v1 v2 : Value) (a b : List Tok) (w : World) (h1 : TokS w v1 a) (h2 : TokS w v2 b) :
    Calls Try.prog 21 #[v1, v2] w fun e w' => e = .returned (.bool (alikeL a b)) ∧ Below w.heap.size w w' := by
  by_cases hab : a.length = b.length
  · obtain ⟨ha, h1⟩ := h1
    obtain ⟨hb, h2⟩ := h2
    have zero : ∀ A c A' c', Calls Try.prog 21 #[.slice A 0 c, .slice A' 0 c'] w fun e w' => e = .returned (.bool true) ∧ Below w.heap.size w w' := by
      intro A c A' c'
      go_enter Try.func21, Try.ntmps21
      go_wp2
      go_loop [5] (fun i => i = .int .i64 0) (fun i => 0)
      case atStart => rfl
      case round =>
        obtain rfl := hrel
        go_wp2
        go_ret
        exact ⟨rfl, Below.refl _ _⟩
    rcases h1 with ⟨rfl, A, c, rfl⟩ | ⟨g, o, c, rfl, hg, h1⟩
    · rcases h2 with ⟨rfl, A', c', rfl⟩ | ⟨g', o', c', rfl, hg', h2⟩
      · exact zero A c A' c'
      · obtain rfl : b = [] := by simpa using hab.symm
        exact zero A c (some _) c'
    · rcases h2 with ⟨rfl, A', c', rfl⟩ | ⟨g', o', c', rfl, hg', h2⟩
      · obtain rfl : a = [] := by simpa using hab
        exact zero (some _) c A' c'
      · exact alike_run g o g' o' c c' a b w hab ha hg hg' h1 h2
  · obtain ⟨ha, h1⟩ := h1
    obtain ⟨hb, h2⟩ := h2
    rw [alikeL_len a b hab]
    have e1 : ∃ A c, v1 = .slice A a.length c := by
      rcases h1 with ⟨rfl, A, c, rfl⟩ | ⟨g, o, c, rfl, _, _⟩
      · exact ⟨A, c, rfl⟩
      · exact ⟨_, _, rfl⟩
    have e2 : ∃ A c, v2 = .slice A b.length c := by
      rcases h2 with ⟨rfl, A, c, rfl⟩ | ⟨g, o, c, rfl, _, _⟩
      · exact ⟨A, c, rfl⟩
      · exact ⟨_, _, rfl⟩
    obtain ⟨A, c, rfl⟩ := e1
    obtain ⟨A', c', rfl⟩ := e2
    clear h1 h2
    have hne : (((a.length : Int)) != (b.length : Int)) = true := by rw [bne_iff_ne]; omega
    have hne2 : (a.length == b.length) = false := by simpa using hab
    clear hab
    go_enter Try.func21, Try.ntmps21
    go_wp2
    go_ret
    exact ⟨rfl, Below.refl _ _⟩
