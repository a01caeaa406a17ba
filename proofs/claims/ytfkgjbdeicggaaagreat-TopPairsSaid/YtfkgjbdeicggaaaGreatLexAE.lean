/-
  The reference lexer's small functions, walked: each returns what the plain function on lists of bytes says. The reference lexer's Name, Quote and str, walked. The reference lexer's str and next, walked. The reference lexer's next, walked. Tokens in memory: when two are equal; a slice of tokens read as a list; the reference's Same and Alike, walked.
-/
import Derived.Test.YtfkgjbdeicggaaaGreatRows
import Derived.Test.YtfkgjbdeicggaaaGreatPlainAll
import Derived.WalkKit
import Derived.WalkSpells
import Derived.WalkLawsBesides
import Derived.Deep.QuietTactic
import Derived.BigQuiet
/-! The reference lexer's small functions, walked: each returns what the plain function on lists of bytes says. -/
namespace Go.Proofs.YtfkgjbdeicggaaaGreat
open Go.RowKit Go.Proofs.PlLex

theorem hide {p : Prop} (h : p) : Hid p := h
theorem ret_bool {a b : Bool} (h : a = b) : Ending.returned (.bool a) = .returned (.bool b) := by rw [h]
theorem ret_int {k : IntKind} {a b : Int} (h : a = b) : Ending.returned (.int k a) = .returned (.int k b) := by rw [h]
theorem ret_str {a b : ByteArray} (h : a = b) : Ending.returned (.string a) = .returned (.string b) := by rw [h]
theorem drop_cons (s : ByteArray) (k : Nat) (h : k < s.size) : s.data.toList.drop k = s[k] :: s.data.toList.drop (k + 1) := by
  rw [List.drop_eq_getElem_cons (by simpa using h)]; rfl
theorem drop_end (s : ByteArray) (k : Nat) (h : ¬ k < s.size) : s.data.toList.drop k = [] := by
  rw [List.drop_eq_nil_iff]; simp; exact Nat.le_of_not_lt h
theorem u8_eq (a b : UInt8) : ((a.toNat : Int) == (b.toNat : Int)) = (a == b) := by
  rw [Bool.eq_iff_iff, beq_iff_eq, beq_iff_eq, ← UInt8.toNat_inj]; omega
theorem u8_lt (a : UInt8) : (a.toNat : Int) < 256 := by have := a.toNat_lt; omega

/-- Does a list have a byte? Behind a name of its own. -/
def hasB (l : L) (c : UInt8) : Bool := l.contains c
theorem hasB_cons (x : UInt8) (l : L) (c : UInt8) : hasB (x :: l) c = (x == c || hasB l c) := by
  simp only [hasB, List.contains_cons]
  rw [show (c == x) = (x == c) from by rw [Bool.eq_iff_iff, beq_iff_eq, beq_iff_eq]; exact eq_comm]

theorem isDigit_int (c : UInt8) : decide (48 ≤ (c.toNat : Int) ∧ (c.toNat : Int) ≤ 57) = isDigit c := by
  rw [Bool.eq_iff_iff]; simp [isDigit, UInt8.le_iff_toNat_le]; omega
theorem isLetter_int (c : UInt8) : decide ((97 ≤ (c.toNat : Int) ∧ (c.toNat : Int) ≤ 122) ∨ (65 ≤ (c.toNat : Int) ∧ (c.toNat : Int) ≤ 90)) = isLetter c := by
  rw [Bool.eq_iff_iff]; simp [isLetter, UInt8.le_iff_toNat_le]; omega

set_option maxHeartbeats 400000 in
theorem digit_any (c : UInt8) (w : World) :
    Calls Tryz.prog 246 #[.int .u8 c.toNat] w fun e w' => e = .returned (.bool (isDigit c)) ∧ w = w' := by
  go_enter Tryz.func246, Tryz.ntmps246
  go_wp2
  all_goals go_ret
  all_goals exact ⟨ret_bool (by rw [← isDigit_int]; rw [Bool.eq_iff_iff]; simp; omega), rfl⟩

set_option maxHeartbeats 400000 in
theorem letter_any (c : UInt8) (w : World) :
    Calls Tryz.prog 222 #[.int .u8 c.toNat] w fun e w' => e = .returned (.bool (isLetter c)) ∧ w = w' := by
  go_enter Tryz.func222, Tryz.ntmps222
  go_wp2
  all_goals go_ret
  all_goals exact ⟨ret_bool (by rw [← isLetter_int]; rw [Bool.eq_iff_iff]; simp; omega), rfl⟩

set_option maxHeartbeats 400000 in
theorem word_any (c : UInt8) (w : World) :
    Calls Tryz.prog 221 #[.int .u8 c.toNat] w fun e w' => e = .returned (.bool (isWord c)) ∧ w = w' := by
  have h95 : ((c.toNat : Int) == 95) = (c == 95) := u8_eq c 95
  have e : isWord c = (isLetter c || isDigit c || c == 95) := rfl
  have E := hide e; clear e
  cases h1 : isLetter c <;> cases h2 : isDigit c
  all_goals
    have H1 := hide h1; have H2 := hide h2
    have c1 := letter_any c w; have c2 := digit_any c w
    rw [h1] at c1; rw [h2] at c2
    have C1 := hide c1; have C2 := hide c2
    have H9 := hide h95
    clear h1 h2 c1 c2
    go_enter Tryz.func221, Tryz.ntmps221
    go_wp2_with (first | (go_at_call 222; refine C1.out.mono ?_; rintro e w' ⟨rfl, rfl⟩) | (go_at_call 246; refine C2.out.mono ?_; rintro e w' ⟨rfl, rfl⟩))
    all_goals go_ret
    all_goals exact ⟨ret_bool (by rw [E.out, H1.out, H2.out]; simp), rfl⟩

theorem blank_has (c : UInt8) : hasB [32, 9, 10] c = isBlank c := by
  simp only [hasB, isBlank, List.contains_cons, List.contains_nil, Bool.or_false, Bool.or_assoc]

theorem gapF_blank (c : UInt8) (l : L) (hb : isBlank c = true) : gapF false (c :: l) = gapF false l + 1 := by simp [gapF, hb]
theorem gapF_hash (c : UInt8) (l : L) (hb : isBlank c = false) (hc : (c == 35) = true) : gapF false (c :: l) = gapF true (c :: l) := by
  have : c = 35 := by simpa using hc
  subst this
  simp [gapF, hb]
theorem gapF_other (c : UInt8) (l : L) (hb : isBlank c = false) (hc : (c == 35) = false) : gapF false (c :: l) = 0 := by simp only [gapF, hb, hc]; rfl
theorem gapF_in (c : UInt8) (l : L) (hc : (c == 10) = false) : gapF true (c :: l) = gapF true l + 1 := by simp only [gapF, hc]; rfl
theorem gapF_out (c : UInt8) (l : L) (hc : (c == 10) = true) : gapF true (c :: l) = gapF false (c :: l) := by
  have : c = 10 := by simpa using hc
  subst this
  simp [gapF, isBlank]
end Go.Proofs.YtfkgjbdeicggaaaGreat

/-! The reference lexer's Name, Quote and str, walked. -/
namespace Go.Proofs.YtfkgjbdeicggaaaGreat
open Go.RowKit Go.Proofs.PlLex

theorem name_parts (l : L) : name l = (l.all isWord && (match l with | [] => false | c :: _ => isLetter c) && decide (l.length ≤ 24)) := rfl
def headLetter : L → Bool
  | [] => false
  | c :: _ => isLetter c
def allWord (l : L) : Bool := l.all isWord
theorem name_eq (l : L) : name l = (allWord l && headLetter l && decide (l.length ≤ 24)) := by cases l <;> rfl
theorem size_list (s : ByteArray) : s.data.toList.length = s.size := rfl

set_option maxHeartbeats 400000 in
theorem rname_any (s : ByteArray) (w : World) (hs : s.size ≤ maxLen) :
    Calls Tryz.prog 150 #[.string s] w fun e w' => e = .returned (.bool (name s.data.toList)) ∧ w = w' := by
  unfold maxLen at hs
  obtain ⟨R, hR⟩ : ∃ R, R = name s.data.toList := ⟨_, rfl⟩
  rw [← hR]
  have HR := hide hR
  clear hR
  go_enter Tryz.func150, Tryz.ntmps150
  go_wp2
  go_loop [3] (fun i => ∃ k : Nat, k ≤ s.size ∧ i = .int .i64 k ∧ Hid (allWord (s.data.toList.drop k) = allWord s.data.toList)) (fun i => s.size - (intOf i).toNat)
  case atStart => exact ⟨0, Nat.zero_le _, rfl, rfl⟩
  case round =>
    obtain ⟨k, hk, rfl, hrel⟩ := hrel
    by_cases hlt : k < s.size
    · have h1 := hide ((congrArg allWord (drop_cons s k hlt)).symm.trans hrel.out)
      clear hrel
      cases hw : isWord s[k]
      all_goals
        have c1 := word_any s[k] w
        rw [hw] at c1
        have C1 := hide c1
        have HW := hide hw
        clear c1 hw
        go_wp2_with (go_at_call 221; refine C1.out.mono ?_; rintro e w' ⟨rfl, rfl⟩)
      · go_ret
        refine ⟨ret_bool ?_, rfl⟩
        rw [HR.out, name_eq, ← h1.out]
        simp [allWord, HW.out]
      · go_round
        case rel =>
          refine ⟨k + 1, by omega, by go_num, ?_⟩
          show _ = _
          rw [← h1.out]
          simp [allWord, HW.out]
        case measure => simp [intOf]; omega
    · have h1 : Hid (allWord s.data.toList = true) := by
        show _ = _
        rw [← hrel.out, drop_end s k hlt]; rfl
      clear hrel
      by_cases h0 : 0 < s.size
      · have hd := hide (drop_cons s 0 h0)
        by_cases h24 : s.size ≤ 24
        · have c1 := hide (letter_any s[0] w)
          have hh : Hid (R = isLetter s[0]) := by
            show _ = _
            have e := hd.out
            rw [List.drop_zero] at e
            rw [HR.out, name_eq, h1.out, size_list]
            rw [e]
            simp [headLetter, h24]
          go_wp2_with (go_at_call 222; refine c1.out.mono ?_; rintro e w' ⟨rfl, rfl⟩)
          all_goals go_ret
          all_goals exact ⟨ret_bool (by rw [hh.out]), rfl⟩
        · go_wp2_with fail
          all_goals go_ret
          refine ⟨ret_bool ?_, rfl⟩
          rw [HR.out, name_eq, size_list]
          simp [h24]
      · go_wp2_with fail
        all_goals go_ret
        refine ⟨ret_bool ?_, rfl⟩
        have : s.data.toList = [] := by have := drop_end s 0 h0; simpa using this
        rw [HR.out, this]; rfl

theorem ext_list (s : ByteArray) (a b : Nat) : (s.extract a b).data.toList = (s.data.toList.drop a).take (b - a) := by
  simp [List.extract]
theorem app_list (a b : ByteArray) : (a ++ b).data.toList = a.data.toList ++ b.data.toList := by simp
theorem str_of_list (a : ByteArray) (l : L) (h : a.data.toList = l) : a = ⟨l.toArray⟩ := by
  cases a with | mk d => simp at h; rw [← h]
theorem take_snoc (s : ByteArray) (k : Nat) (h : k < s.size) : s.data.toList.take (k + 1) = s.data.toList.take k ++ [s[k]] := by
  rw [List.take_succ_eq_append_getElem (by simpa using h)]; rfl
theorem mid_snoc (s : ByteArray) (f k : Nat) (hf : f ≤ k) (h : k < s.size) : (s.data.toList.drop f).take (k + 1 - f) = (s.data.toList.drop f).take (k - f) ++ [s[k]] := by
  rw [show k + 1 - f = (k - f) + 1 by omega, List.take_succ_eq_append_getElem (by simp; omega), List.getElem_drop]
  congr 2
  show s.data.toList[f + (k - f)]'_ = s.data.toList[k]'_
  congr 1; omega
theorem quoteB_snoc (l : L) (c : UInt8) : quoteB (l ++ [c]) = quoteB l ++ (if c == 10 then [92, 110] else if c == 34 || c == 92 then [92, c] else [c]) := by
  induction l with
  | nil => simp only [quoteB, List.nil_append]
  | cons d l ih =>
    simp only [List.cons_append, quoteB, ih]
    split
    · simp
    · split
      · simp
      · simp
end Go.Proofs.YtfkgjbdeicggaaaGreat

/-! The reference lexer's str and next, walked. -/
namespace Go.Proofs.YtfkgjbdeicggaaaGreat
open Go.RowKit Go.Proofs.PlLex

def strEnd (a : Nat) : Option (L × Nat) → Value
  | none => .tuple #[.string ⟨#[]⟩, .int .i64 0, .bool false]
  | some (t, n) => .tuple #[.string ⟨t.toArray⟩, .int .i64 ((a + 1 + n : Nat) : Int), .bool true]
def behind (q : L) (d : Nat) (r : Option (L × Nat)) : Option (L × Nat) := r.map fun x => (q ++ x.1, x.2 + d)
theorem esc_has (c : UInt8) : hasB [92, 34, 110] c = (c == 92 || c == 34 || c == 110) := by
  simp only [hasB, List.contains_cons, List.contains_nil, Bool.or_false, Bool.or_assoc]
theorem strM_cons (c : UInt8) (l : L) : strM false (c :: l) = if c == 34 then some ([], 1) else if c == 10 then none else if c == 92 then (strM true l).map (fun r => (r.1, r.2 + 1)) else (strM false l).map (fun r => (c :: r.1, r.2 + 1)) := rfl
theorem strM_esc (d : UInt8) (l : L) : strM true (d :: l) = if d == 92 || d == 34 || d == 110 then (strM false l).map (fun r => ((if d == 110 then 10 else d) :: r.1, r.2 + 1)) else none := rfl
theorem ret_val {a b : Value} (h : a = b) : Ending.returned a = .returned b := by rw [h]
end Go.Proofs.YtfkgjbdeicggaaaGreat

/-! The reference lexer's next, walked. -/
namespace Go.Proofs.YtfkgjbdeicggaaaGreat
open Go.RowKit Go.Proofs.PlLex

def nextEnd (a : Nat) : Except Nat (Nat × L × Nat) → Value
  | .error e => .tuple #[.agg #[.int .i64 0, .string ⟨#[]⟩, .int .i64 0], .int .i64 0, .int .i64 (e : Int)]
  | .ok (k, t, n) => .tuple #[.agg #[.int .i64 (k : Int), .string ⟨t.toArray⟩, .int .i64 (a : Int)], .int .i64 ((a + n : Nat) : Int), .int .i64 0]
def twl (p : UInt8 → Bool) (l : L) : Nat := (l.takeWhile p).length
theorem twl_yes (p : UInt8 → Bool) (c : UInt8) (l : L) (h : p c = true) : twl p (c :: l) = twl p l + 1 := by simp [twl, h]
theorem twl_no (p : UInt8 → Bool) (c : UInt8) (l : L) (h : p c = false) : twl p (c :: l) = 0 := by simp [twl, h]
theorem twl_le (p : UInt8 → Bool) (l : L) : twl p l ≤ l.length := (List.takeWhile_sublist p).length_le
theorem take_twl (p : UInt8 → Bool) (l : L) : l.take (twl p l) = l.takeWhile p := by
  induction l with
  | nil => rfl
  | cons c l ih =>
    cases h : p c
    · simp [twl, h]
    · rw [twl_yes p c l h]; simp [h, ih]
theorem drop_twl (p : UInt8 → Bool) (l : L) : l.drop (twl p l) = l.dropWhile p := by
  induction l with
  | nil => rfl
  | cons c l ih =>
    cases h : p c
    · simp [twl, h]
    · rw [twl_yes p c l h]; simp [h, ih]
theorem word_text (s : ByteArray) (a n : Nat) (ha : a < s.size) (p : UInt8 → Bool) (hn : n = twl p (s.data.toList.drop (a + 1))) : s.extract a (a + 1 + n) = ⟨(s[a] :: (s.data.toList.drop (a + 1)).takeWhile p).toArray⟩ := by
  refine str_of_list _ _ ?_
  rw [ext_list, drop_cons s a ha, show a + 1 + n - a = n + 1 by omega, List.take_succ_cons, hn, take_twl]
theorem next_letter (c : UInt8) (l : L) (h : isLetter c = true) : nextT c l = if 24 < twl isWord l + 1 then .error 2 else .ok (1, c :: l.takeWhile isWord, twl isWord l + 1) := by
  simp only [nextT, h, if_true, twl, List.length_cons]; rfl
theorem next_digit (c : UInt8) (l : L) (h0 : isLetter c = false) (h : isDigit c = true) : nextT c l = if 7 < twl isDigit l + 1 || headWord (l.dropWhile isDigit) then .error 4 else .ok (2, c :: l.takeWhile isDigit, twl isDigit l + 1) := by
  simp only [nextT, h0, h, if_true, twl, List.length_cons]; rfl

theorem headWord_cons (c : UInt8) (l : L) : headWord (c :: l) = isWord c := rfl

theorem sym_has (c : UInt8) : hasB [59, 44, 46, 58, 40, 41, 123, 125, 91, 93, 61, 60, 62, 47, 45] c = isSym c := rfl
theorem letter_is (c : UInt8) (b : Bool) (hl : isLetter c = b) (w : World) : Calls Tryz.prog 222 #[.int .u8 c.toNat] w fun e w' => e = .returned (.bool b) ∧ w = w' := by
  have := letter_any c w
  rwa [hl] at this
theorem digit_is (c : UInt8) (b : Bool) (hl : isDigit c = b) (w : World) : Calls Tryz.prog 246 #[.int .u8 c.toNat] w fun e w' => e = .returned (.bool b) ∧ w = w' := by
  have := digit_any c w
  rwa [hl] at this
theorem next_rest (c : UInt8) (l : L) (h0 : isLetter c = false) (h1 : isDigit c = false) : nextT c l = if c == 34 then (match str l with | none => .error 3 | some (s, n) => .ok (3, s, n + 1)) else if isSym c then .ok (4, [c], 1) else .error 3 := by
  simp only [nextT, h0, h1]; rfl
end Go.Proofs.YtfkgjbdeicggaaaGreat

/-! Tokens in memory: when two are equal; a slice of tokens read as a list; the reference's Same and Alike, walked. -/
namespace Go.Proofs.YtfkgjbdeicggaaaGreat
open Go.RowKit Go.Proofs.PlLex

theorem below_drewN' {B : Nat} {a w : World} (h : Below B a w) (n : Nat) : Below B a (w.drewN n) := ⟨h.os, h.tape, h.output, h.size, h.block⟩

/-- Are two tokens equal, by their cells? -/
def tokEq (k1 a1 : Int) (s1 : ByteArray) (k2 a2 : Int) (s2 : ByteArray) : Bool := k1 == k2 && (s1.toList == s2.toList && a1 == a2)

/-- From block g, offset o on: tokens. -/
def TokAt (w : World) (g o : Nat) (ts : List Tok) : Prop :=
  ∀ i t, ts[i]? = some t → w.cell? ⟨g, o + i * 3, none⟩ = some (.int .i64 (t.kind : Int)) ∧ w.cell? ⟨g, o + i * 3 + 1, none⟩ = some (.string ⟨t.text.toArray⟩) ∧
    w.cell? ⟨g, o + i * 3 + 2, none⟩ = some (.int .i64 (t.off : Int)) ∧ t.off ≤ 1000000

/-- A slice of tokens, as it lies in memory. -/
def TokS (w : World) (v : Value) (ts : List Tok) : Prop :=
  ts.length ≤ 1000000 ∧ ((ts = [] ∧ ∃ A c, v = .slice A 0 c) ∨ ∃ g o c, v = .slice (some ⟨g, o, none⟩) ts.length c ∧ g < w.heap.size ∧ TokAt w g o ts)

theorem TokAt.below {w w' : World} {g o : Nat} {ts : List Tok} (h : TokAt w g o ts) (hg : g < w.heap.size) (hb : Below w.heap.size w w') : TokAt w' g o ts := by
  intro i t ht
  obtain ⟨h1, h2, h3, h4⟩ := h i t ht
  exact ⟨(hb.cell (p := ⟨g, _, none⟩) hg).trans h1, (hb.cell (p := ⟨g, _, none⟩) hg).trans h2, (hb.cell (p := ⟨g, _, none⟩) hg).trans h3, h4⟩
theorem TokS.below {w w' : World} {v : Value} {ts : List Tok} (h : TokS w v ts) (hb : Below w.heap.size w w') : TokS w' v ts := by
  obtain ⟨hl, h⟩ := h
  refine ⟨hl, ?_⟩
  rcases h with h | ⟨g, o, c, h1, h2, h3⟩
  · exact .inl h
  · exact .inr ⟨g, o, c, h1, Nat.lt_of_lt_of_le h2 hb.size, h3.below h2 hb⟩

def sameTok (d : Int) (x y : Tok) : Bool := tokEq x.kind (x.off + d) ⟨x.text.toArray⟩ y.kind y.off ⟨y.text.toArray⟩
def sameL (d : Int) : List Tok → List Tok → Bool
  | [], [] => true
  | x :: a, y :: b => sameTok d x y && sameL d a b
  | _, _ => false
theorem sameL_len (d : Int) (a b : List Tok) (h : a.length ≠ b.length) : sameL d a b = false := by
  induction a generalizing b with
  | nil => cases b with
    | nil => exact absurd rfl h
    | cons y b => rfl
  | cons x a ih => cases b with
    | nil => rfl
    | cons y b => simp only [sameL, ih b (by simpa using h), Bool.and_false]
theorem drop_tok (ts : List Tok) (k : Nat) (h : k < ts.length) : ts.drop k = ts[k] :: ts.drop (k + 1) := List.drop_eq_getElem_cons h

theorem alloc_cell {w : World} {a : Addr} {u : Value} (h : w.cell? a = some u) (ob : Obj) : (w.alloc ob).cell? a = some u :=
  (World.cell?_alloc_lt w ob a (by
    rcases Nat.lt_or_ge a.block w.heap.size with h1 | h1
    · exact h1
    · have : w.cell? a = none := by unfold World.cell?; simp [Array.getElem?_eq_none h1]
      rw [this] at h; cases h)).trans h

def alikeTok (x y : Tok) : Bool := x.kind == y.kind && x.text == y.text
def alikeL : List Tok → List Tok → Bool
  | [], [] => true
  | x :: a, y :: b => alikeTok x y && alikeL a b
  | _, _ => false
theorem alikeL_len (a b : List Tok) (h : a.length ≠ b.length) : alikeL a b = false := by
  induction a generalizing b with
  | nil => cases b with
    | nil => exact absurd rfl h
    | cons y b => rfl
  | cons x a ih => cases b with
    | nil => rfl
    | cons y b => simp only [alikeL, ih b (by simpa using h), Bool.and_false]
theorem toList_arr (l : L) : (ByteArray.mk l.toArray).toList = l := by rw [ByteArray.toList_eq]
end Go.Proofs.YtfkgjbdeicggaaaGreat
