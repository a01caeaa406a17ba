/-
  The reference lexer's small functions, walked: each returns what the plain function on lists of bytes says.
-/
import Derived.Test.YtpiocaomlifljaaRows
import Derived.Test.YtpiocaomlifljaaPlain
import Derived.WalkKit
import Derived.WalkSpells
import Derived.WalkLawsBesides
import Derived.Deep.QuietTactic
import Derived.BigQuiet
import Derived.Test.YtpiocaomlifljaaBuild
import Derived.Test.YtpiocaomlifljaaShelf
import Derived.Deep.WholeRow
namespace Go.Proofs.Ytpiocaomlifljaa
open Go.RowKit Go.Proofs.PlLex

theorem hide {p : Prop} (h : p) : Hid p := h
theorem ret_bool {a b : Bool} (h : a = b) : Ending.returned (.bool a) = .returned (.bool b) := by rw [h]
theorem ret_int {k : IntKind} {a b : Int} (h : a = b) : Ending.returned (.int k a) = .returned (.int k b) := by rw [h]
theorem ret_str {a b : ByteArray} (h : a = b) : Ending.returned (.string a) = .returned (.string b) := by rw [h]
theorem drop_cons (s : ByteArray) (k : Nat) (h : k < s.size) : s.data.toList.drop k = s[k] :: s.data.toList.drop (k + 1) := by
  rw [List.drop_eq_getElem_cons (by simpa using h)]; rfl
theorem drop_end (s : ByteArray) (k : Nat) (h : ¬ k < s.size) : s.data.toList.drop k = [] := by
  rw [List.drop_eq_nil_iff]; simp; exact Nat.le_of_not_lt h
theorem u8_eq (a b : UInt8) : ((a.toNat : Int) == (b.toNat : Int)) = (a == b) := by
  rw [Bool.eq_iff_iff, beq_iff_eq, beq_iff_eq, ← UInt8.toNat_inj]; omega
theorem u8_lt (a : UInt8) : (a.toNat : Int) < 256 := by have := a.toNat_lt; omega

/-- Does a list have a byte? Behind a name of its own. -/
def hasB (l : L) (c : UInt8) : Bool := l.contains c
theorem hasB_cons (x : UInt8) (l : L) (c : UInt8) : hasB (x :: l) c = (x == c || hasB l c) := by
  simp only [hasB, List.contains_cons]
  rw [show (c == x) = (x == c) from by rw [Bool.eq_iff_iff, beq_iff_eq, beq_iff_eq]; exact eq_comm]

theorem isDigit_int (c : UInt8) : decide (48 ≤ (c.toNat : Int) ∧ (c.toNat : Int) ≤ 57) = isDigit c := by
  rw [Bool.eq_iff_iff]; simp [isDigit, UInt8.le_iff_toNat_le]; omega
theorem isLetter_int (c : UInt8) : decide ((97 ≤ (c.toNat : Int) ∧ (c.toNat : Int) ≤ 122) ∨ (65 ≤ (c.toNat : Int) ∧ (c.toNat : Int) ≤ 90)) = isLetter c := by
  rw [Bool.eq_iff_iff]; simp [isLetter, UInt8.le_iff_toNat_le]; omega

set_option maxHeartbeats 400000 in
theorem digit_any (c : UInt8) (w : World) :
    Calls Try.prog 90 #[.int .u8 c.toNat] w fun e w' => e = .returned (.bool (isDigit c)) ∧ w = w' := by
  go_enter Try.func90, Try.ntmps90
  go_wp2
  all_goals go_ret
  all_goals exact ⟨ret_bool (by rw [← isDigit_int]; rw [Bool.eq_iff_iff]; simp; omega), rfl⟩

set_option maxHeartbeats 400000 in
theorem letter_any (c : UInt8) (w : World) :
    Calls Try.prog 88 #[.int .u8 c.toNat] w fun e w' => e = .returned (.bool (isLetter c)) ∧ w = w' := by
  go_enter Try.func88, Try.ntmps88
  go_wp2
  all_goals go_ret
  all_goals exact ⟨ret_bool (by rw [← isLetter_int]; rw [Bool.eq_iff_iff]; simp; omega), rfl⟩

set_option maxHeartbeats 400000 in
theorem word_any (c : UInt8) (w : World) :
    Calls Try.prog 87 #[.int .u8 c.toNat] w fun e w' => e = .returned (.bool (isWord c)) ∧ w = w' := by
  have h95 : ((c.toNat : Int) == 95) = (c == 95) := u8_eq c 95
  have e : isWord c = (isLetter c || isDigit c || c == 95) := rfl
  have E := hide e; clear e
  cases h1 : isLetter c <;> cases h2 : isDigit c
  all_goals
    have H1 := hide h1; have H2 := hide h2
    have c1 := letter_any c w; have c2 := digit_any c w
    rw [h1] at c1; rw [h2] at c2
    have C1 := hide c1; have C2 := hide c2
    have H9 := hide h95
    clear h1 h2 c1 c2
    go_enter Try.func87, Try.ntmps87
    go_wp2_with (first | (go_at_call 88; refine C1.out.mono ?_; rintro e w' ⟨rfl, rfl⟩) | (go_at_call 90; refine C2.out.mono ?_; rintro e w' ⟨rfl, rfl⟩))
    all_goals go_ret
    all_goals exact ⟨ret_bool (by rw [E.out, H1.out, H2.out]; simp), rfl⟩

theorem blank_has (c : UInt8) : hasB [32, 9, 10] c = isBlank c := by
  simp only [hasB, isBlank, List.contains_cons, List.contains_nil, Bool.or_false, Bool.or_assoc]

theorem gapF_blank (c : UInt8) (l : L) (hb : isBlank c = true) : gapF false (c :: l) = gapF false l + 1 := by simp [gapF, hb]
theorem gapF_hash (c : UInt8) (l : L) (hb : isBlank c = false) (hc : (c == 35) = true) : gapF false (c :: l) = gapF true (c :: l) := by
  have : c = 35 := by simpa using hc
  subst this
  simp [gapF, hb]
theorem gapF_other (c : UInt8) (l : L) (hb : isBlank c = false) (hc : (c == 35) = false) : gapF false (c :: l) = 0 := by simp only [gapF, hb, hc]; rfl
theorem gapF_in (c : UInt8) (l : L) (hc : (c == 10) = false) : gapF true (c :: l) = gapF true l + 1 := by simp only [gapF, hc]; rfl
theorem gapF_out (c : UInt8) (l : L) (hc : (c == 10) = true) : gapF true (c :: l) = gapF false (c :: l) := by
  have : c = 10 := by simpa using hc
  subst this
  simp [gapF, isBlank]

end Go.Proofs.Ytpiocaomlifljaa
/-! The reference lexer's Name, Quote and str, walked. -/
namespace Go.Proofs.Ytpiocaomlifljaa
open Go.RowKit Go.Proofs.PlLex

theorem name_parts (l : L) : name l = (l.all isWord && (match l with | [] => false | c :: _ => isLetter c) && decide (l.length ≤ 24)) := rfl
def headLetter : L → Bool
  | [] => false
  | c :: _ => isLetter c
def allWord (l : L) : Bool := l.all isWord
theorem name_eq (l : L) : name l = (allWord l && headLetter l && decide (l.length ≤ 24)) := by cases l <;> rfl
theorem size_list (s : ByteArray) : s.data.toList.length = s.size := rfl

set_option maxHeartbeats 400000 in
theorem rname_any (s : ByteArray) (w : World) (hs : s.size ≤ maxLen) :
    Calls Try.prog 82 #[.string s] w fun e w' => e = .returned (.bool (name s.data.toList)) ∧ w = w' := by
  unfold maxLen at hs
  obtain ⟨R, hR⟩ : ∃ R, R = name s.data.toList := ⟨_, rfl⟩
  rw [← hR]
  have HR := hide hR
  clear hR
  go_enter Try.func82, Try.ntmps82
  go_wp2
  go_loop [3] (fun i => ∃ k : Nat, k ≤ s.size ∧ i = .int .i64 k ∧ Hid (allWord (s.data.toList.drop k) = allWord s.data.toList)) (fun i => s.size - (intOf i).toNat)
  case atStart => exact ⟨0, Nat.zero_le _, rfl, rfl⟩
  case round =>
    obtain ⟨k, hk, rfl, hrel⟩ := hrel
    by_cases hlt : k < s.size
    · have h1 := hide ((congrArg allWord (drop_cons s k hlt)).symm.trans hrel.out)
      clear hrel
      cases hw : isWord s[k]
      all_goals
        have c1 := word_any s[k] w
        rw [hw] at c1
        have C1 := hide c1
        have HW := hide hw
        clear c1 hw
        go_wp2_with (go_at_call 87; refine C1.out.mono ?_; rintro e w' ⟨rfl, rfl⟩)
      · go_ret
        refine ⟨ret_bool ?_, rfl⟩
        rw [HR.out, name_eq, ← h1.out]
        simp [allWord, HW.out]
      · go_round
        case rel =>
          refine ⟨k + 1, by omega, by go_num, ?_⟩
          show _ = _
          rw [← h1.out]
          simp [allWord, HW.out]
        case measure => simp [intOf]; omega
    · have h1 : Hid (allWord s.data.toList = true) := by
        show _ = _
        rw [← hrel.out, drop_end s k hlt]; rfl
      clear hrel
      by_cases h0 : 0 < s.size
      · have hd := hide (drop_cons s 0 h0)
        by_cases h24 : s.size ≤ 24
        · have c1 := hide (letter_any s[0] w)
          have hh : Hid (R = isLetter s[0]) := by
            show _ = _
            have e := hd.out
            rw [List.drop_zero] at e
            rw [HR.out, name_eq, h1.out, size_list]
            rw [e]
            simp [headLetter, h24]
          go_wp2_with (go_at_call 88; refine c1.out.mono ?_; rintro e w' ⟨rfl, rfl⟩)
          all_goals go_ret
          all_goals exact ⟨ret_bool (by rw [hh.out]), rfl⟩
        · go_wp2_with fail
          all_goals go_ret
          refine ⟨ret_bool ?_, rfl⟩
          rw [HR.out, name_eq, size_list]
          simp [h24]
      · go_wp2_with fail
        all_goals go_ret
        refine ⟨ret_bool ?_, rfl⟩
        have : s.data.toList = [] := by have := drop_end s 0 h0; simpa using this
        rw [HR.out, this]; rfl

theorem ext_list (s : ByteArray) (a b : Nat) : (s.extract a b).data.toList = (s.data.toList.drop a).take (b - a) := by
  simp [List.extract]
theorem app_list (a b : ByteArray) : (a ++ b).data.toList = a.data.toList ++ b.data.toList := by simp
theorem str_of_list (a : ByteArray) (l : L) (h : a.data.toList = l) : a = ⟨l.toArray⟩ := by
  cases a with | mk d => simp at h; rw [← h]
theorem take_snoc (s : ByteArray) (k : Nat) (h : k < s.size) : s.data.toList.take (k + 1) = s.data.toList.take k ++ [s[k]] := by
  rw [List.take_succ_eq_append_getElem (by simpa using h)]; rfl
theorem mid_snoc (s : ByteArray) (f k : Nat) (hf : f ≤ k) (h : k < s.size) : (s.data.toList.drop f).take (k + 1 - f) = (s.data.toList.drop f).take (k - f) ++ [s[k]] := by
  rw [show k + 1 - f = (k - f) + 1 by omega, List.take_succ_eq_append_getElem (by simp; omega), List.getElem_drop]
  congr 2
  show s.data.toList[f + (k - f)]'_ = s.data.toList[k]'_
  congr 1; omega
theorem quoteB_snoc (l : L) (c : UInt8) : quoteB (l ++ [c]) = quoteB l ++ (if c == 10 then [92, 110] else if c == 34 || c == 92 then [92, c] else [c]) := by
  induction l with
  | nil => simp only [quoteB, List.nil_append]
  | cons d l ih =>
    simp only [List.cons_append, quoteB, ih]
    split
    · simp
    · split
      · simp
      · simp

end Go.Proofs.Ytpiocaomlifljaa
/-! The reference lexer's str and next, walked. -/
namespace Go.Proofs.Ytpiocaomlifljaa
open Go.RowKit Go.Proofs.PlLex

def strEnd (a : Nat) : Option (L × Nat) → Value
  | none => .tuple #[.string ⟨#[]⟩, .int .i64 0, .bool false]
  | some (t, n) => .tuple #[.string ⟨t.toArray⟩, .int .i64 ((a + 1 + n : Nat) : Int), .bool true]
def behind (q : L) (d : Nat) (r : Option (L × Nat)) : Option (L × Nat) := r.map fun x => (q ++ x.1, x.2 + d)
theorem esc_has (c : UInt8) : hasB [92, 34, 110] c = (c == 92 || c == 34 || c == 110) := by
  simp only [hasB, List.contains_cons, List.contains_nil, Bool.or_false, Bool.or_assoc]
theorem strM_cons (c : UInt8) (l : L) : strM false (c :: l) = if c == 34 then some ([], 1) else if c == 10 then none else if c == 92 then (strM true l).map (fun r => (r.1, r.2 + 1)) else (strM false l).map (fun r => (c :: r.1, r.2 + 1)) := rfl
theorem strM_esc (d : UInt8) (l : L) : strM true (d :: l) = if d == 92 || d == 34 || d == 110 then (strM false l).map (fun r => ((if d == 110 then 10 else d) :: r.1, r.2 + 1)) else none := rfl
theorem ret_val {a b : Value} (h : a = b) : Ending.returned a = .returned b := by rw [h]

end Go.Proofs.Ytpiocaomlifljaa
/-! The reference lexer's next, walked. -/
namespace Go.Proofs.Ytpiocaomlifljaa
open Go.RowKit Go.Proofs.PlLex

def nextEnd (a : Nat) : Except Nat (Nat × L × Nat) → Value
  | .error e => .tuple #[.agg #[.int .i64 0, .string ⟨#[]⟩, .int .i64 0], .int .i64 0, .int .i64 (e : Int)]
  | .ok (k, t, n) => .tuple #[.agg #[.int .i64 (k : Int), .string ⟨t.toArray⟩, .int .i64 (a : Int)], .int .i64 ((a + n : Nat) : Int), .int .i64 0]
def twl (p : UInt8 → Bool) (l : L) : Nat := (l.takeWhile p).length
theorem twl_yes (p : UInt8 → Bool) (c : UInt8) (l : L) (h : p c = true) : twl p (c :: l) = twl p l + 1 := by simp [twl, h]
theorem twl_no (p : UInt8 → Bool) (c : UInt8) (l : L) (h : p c = false) : twl p (c :: l) = 0 := by simp [twl, h]
theorem twl_le (p : UInt8 → Bool) (l : L) : twl p l ≤ l.length := (List.takeWhile_sublist p).length_le
theorem take_twl (p : UInt8 → Bool) (l : L) : l.take (twl p l) = l.takeWhile p := by
  induction l with
  | nil => rfl
  | cons c l ih =>
    cases h : p c
    · simp [twl, h]
    · rw [twl_yes p c l h]; simp [h, ih]
theorem drop_twl (p : UInt8 → Bool) (l : L) : l.drop (twl p l) = l.dropWhile p := by
  induction l with
  | nil => rfl
  | cons c l ih =>
    cases h : p c
    · simp [twl, h]
    · rw [twl_yes p c l h]; simp [h, ih]
theorem word_text (s : ByteArray) (a n : Nat) (ha : a < s.size) (p : UInt8 → Bool) (hn : n = twl p (s.data.toList.drop (a + 1))) : s.extract a (a + 1 + n) = ⟨(s[a] :: (s.data.toList.drop (a + 1)).takeWhile p).toArray⟩ := by
  refine str_of_list _ _ ?_
  rw [ext_list, drop_cons s a ha, show a + 1 + n - a = n + 1 by omega, List.take_succ_cons, hn, take_twl]
theorem next_letter (c : UInt8) (l : L) (h : isLetter c = true) : nextT c l = if 24 < twl isWord l + 1 then .error 2 else .ok (1, c :: l.takeWhile isWord, twl isWord l + 1) := by
  simp only [nextT, h, if_true, twl, List.length_cons]; rfl
theorem next_digit (c : UInt8) (l : L) (h0 : isLetter c = false) (h : isDigit c = true) : nextT c l = if 7 < twl isDigit l + 1 || headWord (l.dropWhile isDigit) then .error 4 else .ok (2, c :: l.takeWhile isDigit, twl isDigit l + 1) := by
  simp only [nextT, h0, h, if_true, twl, List.length_cons]; rfl

theorem headWord_cons (c : UInt8) (l : L) : headWord (c :: l) = isWord c := rfl

theorem sym_has (c : UInt8) : hasB [59, 44, 46, 58, 40, 41, 123, 125, 91, 93, 61, 60, 62, 47, 45] c = isSym c := rfl
theorem letter_is (c : UInt8) (b : Bool) (hl : isLetter c = b) (w : World) : Calls Try.prog 88 #[.int .u8 c.toNat] w fun e w' => e = .returned (.bool b) ∧ w = w' := by
  have := letter_any c w
  rwa [hl] at this
theorem digit_is (c : UInt8) (b : Bool) (hl : isDigit c = b) (w : World) : Calls Try.prog 90 #[.int .u8 c.toNat] w fun e w' => e = .returned (.bool b) ∧ w = w' := by
  have := digit_any c w
  rwa [hl] at this
theorem next_rest (c : UInt8) (l : L) (h0 : isLetter c = false) (h1 : isDigit c = false) : nextT c l = if c == 34 then (match str l with | none => .error 3 | some (s, n) => .ok (3, s, n + 1)) else if isSym c then .ok (4, [c], 1) else .error 3 := by
  simp only [nextT, h0, h1]; rfl

end Go.Proofs.Ytpiocaomlifljaa
/-! Tokens in memory: when two are equal; a slice of tokens read as a list; the reference's Same and Alike, walked. -/
namespace Go.Proofs.Ytpiocaomlifljaa
open Go.RowKit Go.Proofs.PlLex

theorem below_drewN' {B : Nat} {a w : World} (h : Below B a w) (n : Nat) : Below B a (w.drewN n) := ⟨h.os, h.tape, h.output, h.size, h.block⟩

/-- Are two tokens equal, by their cells? -/
def tokEq (k1 a1 : Int) (s1 : ByteArray) (k2 a2 : Int) (s2 : ByteArray) : Bool := k1 == k2 && (s1.toList == s2.toList && a1 == a2)

/-- From block g, offset o on: tokens. -/
def TokAt (w : World) (g o : Nat) (ts : List Tok) : Prop :=
  ∀ i t, ts[i]? = some t → w.cell? ⟨g, o + i * 3, none⟩ = some (.int .i64 (t.kind : Int)) ∧ w.cell? ⟨g, o + i * 3 + 1, none⟩ = some (.string ⟨t.text.toArray⟩) ∧
    w.cell? ⟨g, o + i * 3 + 2, none⟩ = some (.int .i64 (t.off : Int)) ∧ t.off ≤ 1000000

/-- A slice of tokens, as it lies in memory. -/
def TokS (w : World) (v : Value) (ts : List Tok) : Prop :=
  ts.length ≤ 1000000 ∧ ((ts = [] ∧ ∃ A c, v = .slice A 0 c) ∨ ∃ g o c, v = .slice (some ⟨g, o, none⟩) ts.length c ∧ g < w.heap.size ∧ TokAt w g o ts)

theorem TokAt.below {w w' : World} {g o : Nat} {ts : List Tok} (h : TokAt w g o ts) (hg : g < w.heap.size) (hb : Below w.heap.size w w') : TokAt w' g o ts := by
  intro i t ht
  obtain ⟨h1, h2, h3, h4⟩ := h i t ht
  exact ⟨(hb.cell (p := ⟨g, _, none⟩) hg).trans h1, (hb.cell (p := ⟨g, _, none⟩) hg).trans h2, (hb.cell (p := ⟨g, _, none⟩) hg).trans h3, h4⟩
theorem TokS.below {w w' : World} {v : Value} {ts : List Tok} (h : TokS w v ts) (hb : Below w.heap.size w w') : TokS w' v ts := by
  obtain ⟨hl, h⟩ := h
  refine ⟨hl, ?_⟩
  rcases h with h | ⟨g, o, c, h1, h2, h3⟩
  · exact .inl h
  · exact .inr ⟨g, o, c, h1, Nat.lt_of_lt_of_le h2 hb.size, h3.below h2 hb⟩

def sameTok (d : Int) (x y : Tok) : Bool := tokEq x.kind (x.off + d) ⟨x.text.toArray⟩ y.kind y.off ⟨y.text.toArray⟩
def sameL (d : Int) : List Tok → List Tok → Bool
  | [], [] => true
  | x :: a, y :: b => sameTok d x y && sameL d a b
  | _, _ => false
theorem sameL_len (d : Int) (a b : List Tok) (h : a.length ≠ b.length) : sameL d a b = false := by
  induction a generalizing b with
  | nil => cases b with
    | nil => exact absurd rfl h
    | cons y b => rfl
  | cons x a ih => cases b with
    | nil => rfl
    | cons y b => simp only [sameL, ih b (by simpa using h), Bool.and_false]
theorem drop_tok (ts : List Tok) (k : Nat) (h : k < ts.length) : ts.drop k = ts[k] :: ts.drop (k + 1) := List.drop_eq_getElem_cons h

theorem alloc_cell {w : World} {a : Addr} {u : Value} (h : w.cell? a = some u) (ob : Obj) : (w.alloc ob).cell? a = some u :=
  (World.cell?_alloc_lt w ob a (by
    rcases Nat.lt_or_ge a.block w.heap.size with h1 | h1
    · exact h1
    · have : w.cell? a = none := by unfold World.cell?; simp [Array.getElem?_eq_none h1]
      rw [this] at h; cases h)).trans h

def alikeTok (x y : Tok) : Bool := x.kind == y.kind && x.text == y.text
def alikeL : List Tok → List Tok → Bool
  | [], [] => true
  | x :: a, y :: b => alikeTok x y && alikeL a b
  | _, _ => false
theorem alikeL_len (a b : List Tok) (h : a.length ≠ b.length) : alikeL a b = false := by
  induction a generalizing b with
  | nil => cases b with
    | nil => exact absurd rfl h
    | cons y b => rfl
  | cons x a ih => cases b with
    | nil => rfl
    | cons y b => simp only [alikeL, ih b (by simpa using h), Bool.and_false]
theorem toList_arr (l : L) : (ByteArray.mk l.toArray).toList = l := by rw [ByteArray.toList_eq]

end Go.Proofs.Ytpiocaomlifljaa
/-! The lexer's classes, walked: the array that it returns holds the class of each byte. -/
namespace Go.Proofs.Ytpiocaomlifljaa
open Go.RowKit Go.Proofs.PlLex

def zeros : Array Value := Array.replicate 256 (.int .u8 0)
@[go_sem] theorem zero_classes (w : World) : (zeroValue 112).run Try.prog w = .ok (.agg zeros) w := by kernel_rfl

/-- The class of a byte, before the last three. -/
def cls0 (k : Nat) : Nat :=
  let c := UInt8.ofNat k
  if isLetter c then 3 else if isDigit c then 4 else if isBlank c then 1 else if isSym c then 6 else 0
def cls (k : Nat) : Nat := if k = 35 then 2 else if k = 95 then 5 else if k = 34 then 7 else cls0 k
def clsV0 (k : Nat) : Value := .int .u8 (cls0 k : Int)
def clsV (k : Nat) : Value := .int .u8 (cls k : Int)
def clsArr : Array Value := ((List.range 256).map clsV).toArray
def partL (k : Nat) : List Value := (List.range k).map clsV0 ++ List.replicate (256 - k) (.int .u8 0)
def partA (k : Nat) : Array Value := (partL k).toArray
theorem partA_size (k : Nat) (h : k ≤ 256) : (partA k).size = 256 := by
  simp [partA, partL]; omega
theorem partA_at (k : Nat) (h : k < 256) : (partA k)[k]? = some (.int .u8 0) := by
  simp only [partA, List.getElem?_toArray, partL]
  rw [List.getElem?_append_right (by simp), List.getElem?_replicate]
  rw [if_pos (by simp; omega)]
theorem partA_zero : partA 0 = zeros := by
  simp only [partA, partL, List.range_zero, List.map_nil, List.nil_append, Nat.sub_zero, zeros]
  exact List.toArray_replicate ..
theorem partA_set (k : Nat) (h : k < 256) (v : Value) (hv : v = clsV0 k) : (partA k).setIfInBounds k v = partA (k + 1) := by
  subst hv
  simp only [partA, partL, List.setIfInBounds_toArray]
  congr 1
  rw [List.range_succ, List.map_append, List.set_append_right _ _ (by simp)]
  simp only [List.length_map, List.length_range, Nat.sub_self, List.map_cons, List.map_nil, List.append_assoc]
  congr 1
  obtain ⟨m, hm⟩ : ∃ m, 256 - k = m + 1 := ⟨255 - k, by omega⟩
  rw [hm, show 256 - (k + 1) = m by omega, List.replicate_succ]
  rfl
theorem partA_stay (k : Nat) (h : k < 256) (hv : cls0 k = 0) : partA (k + 1) = partA k := by
  rw [← partA_set k h (.int .u8 0) (by rw [clsV0, hv]; rfl)]
  apply Array.ext_getElem?
  intro i
  rw [Array.getElem?_setIfInBounds]
  split
  · rename_i e
    subst e
    rw [partA_at k h, if_pos (by rw [partA_size k (by omega)]; exact h)]
  · rfl
theorem partA_full (k : Nat) (h : k < 256) : (partA 256)[k]? = some (clsV0 k) := by
  simp only [partA, List.getElem?_toArray, partL]
  simp [h]
theorem cls_final : (((partA 256).setIfInBounds 35 (.int .u8 2)).setIfInBounds 95 (.int .u8 5)).setIfInBounds 34 (.int .u8 7) = clsArr := by
  apply Array.ext_getElem?
  intro i
  have hsz := partA_size 256 (Nat.le_refl _)
  have harr : ∀ i, i < 256 → clsArr[i]? = some (clsV i) := by
    intro i hi
    simp [clsArr, hi]
  simp only [Array.getElem?_setIfInBounds, Array.size_setIfInBounds, hsz]
  by_cases h34 : 34 = i
  · subst h34; rw [harr 34 (by omega)]; rfl
  · rw [if_neg h34]
    by_cases h95 : 95 = i
    · subst h95; rw [harr 95 (by omega)]; rfl
    · rw [if_neg h95]
      by_cases h35 : 35 = i
      · subst h35; rw [harr 35 (by omega)]; rfl
      · rw [if_neg h35]
        by_cases hi : i < 256
        · rw [partA_full i hi, harr i hi]
          simp only [clsV, cls, clsV0]
          rw [if_neg (fun e => h35 e.symm), if_neg (fun e => h95 e.symm), if_neg (fun e => h34 e.symm)]
        · rw [Array.getElem?_eq_none (by rw [hsz]; omega), Array.getElem?_eq_none (by simp [clsArr]; omega)]
theorem clsArr_size : clsArr.size = 256 := by simp [clsArr]
theorem clsArr_one : clsArr.all (·.oneCell') = true := by
  rw [Array.all_eq_true_iff_forall_mem]
  intro v hv
  simp only [clsArr, List.mem_toArray, List.mem_map] at hv
  obtain ⟨k, _, rfl⟩ := hv
  rfl
theorem info_classes : (Try.prog.info? 112).map (·.size) = some 256 := by kernel_rfl

theorem at_u8 (k : Nat) (h : k < 256) : (UInt8.ofNat k).toNat = k := by simp; omega
theorem letter_k (k : Nat) (h : k < 256) : isLetter (UInt8.ofNat k) = (decide (97 ≤ k ∧ k ≤ 122) || decide (65 ≤ k ∧ k ≤ 90)) := by
  rw [Bool.eq_iff_iff]; simp [isLetter, UInt8.le_iff_toNat_le, at_u8 k h]
theorem digit_k (k : Nat) (h : k < 256) : isDigit (UInt8.ofNat k) = decide (48 ≤ k ∧ k ≤ 57) := by
  rw [Bool.eq_iff_iff]; simp [isDigit, UInt8.le_iff_toNat_le, at_u8 k h]

/-- A byte in a short text: what strings.IndexByte says of it. -/
theorem index_contains (l : L) (c : UInt8) : decide (0 ≤ Lib.indexByte l c) = hasB l c := by
  induction l with
  | nil => rfl
  | cons x l ih =>
    rw [hasB_cons, ← ih]
    have hge := Lib.indexByte_ge l c
    by_cases h : x = c
    · subst h
      simp [Lib.indexByte]
    · have h1 : (x == c) = false := by simpa using h
      rw [h1, Bool.false_or]
      simp only [Lib.indexByte, h1, Bool.false_eq_true, if_false]
      by_cases h2 : Lib.indexByte l c = -1
      · simp [h2]
      · have h3 : (Lib.indexByte l c == -1) = false := by simpa using h2
        simp only [h3, Bool.false_eq_true, if_false]
        rw [Bool.eq_iff_iff]
        simp
        omega

theorem index_blank (k : Nat) (w : World) (b : Bool) (hb : isBlank (UInt8.ofNat k) = b) :
    Calls Try.prog 86 #[.string ⟨#[32, 9, 10]⟩, .int .u8 (k : Int)] w fun e w' => (∃ n : Int, e = .returned (.int .i64 n) ∧ decide (0 ≤ n) = b) ∧ w = w' := by
  refine (Try.strings_IndexByte ⟨#[32, 9, 10]⟩ k w).mono ?_
  rintro e w' ⟨rfl, rfl⟩
  refine ⟨⟨_, rfl, ?_⟩, rfl⟩
  rw [index_contains, show (ByteArray.mk #[32, 9, 10]).data.toList = [32, 9, 10] from rfl, blank_has]
  exact hb
theorem index_sym (k : Nat) (w : World) (b : Bool) (hb : isSym (UInt8.ofNat k) = b) :
    Calls Try.prog 86 #[.string ⟨#[59, 44, 46, 58, 40, 41, 123, 125, 91, 93, 61, 60, 62, 47, 45]⟩, .int .u8 (k : Int)] w fun e w' => (∃ n : Int, e = .returned (.int .i64 n) ∧ decide (0 ≤ n) = b) ∧ w = w' := by
  refine (Try.strings_IndexByte ⟨#[59, 44, 46, 58, 40, 41, 123, 125, 91, 93, 61, 60, 62, 47, 45]⟩ k w).mono ?_
  rintro e w' ⟨rfl, rfl⟩
  refine ⟨⟨_, rfl, ?_⟩, rfl⟩
  rw [index_contains, show (ByteArray.mk #[59, 44, 46, 58, 40, 41, 123, 125, 91, 93, 61, 60, 62, 47, 45]).data.toList = [59, 44, 46, 58, 40, 41, 123, 125, 91, 93, 61, 60, 62, 47, 45] from rfl, sym_has]
  exact hb

/-- What the loop keeps: the two blocks. -/
def ClsRel (B k : Nat) (w wr : World) : Prop :=
  wr.heap[B + 1]? = some (.cells (partA k) 112 (0, 0)) ∧ wr.heap[B]? = some (.cells zeros 112 (0, 0)) ∧ Below B w wr
theorem ClsRel.start (w : World) : ClsRel w.heap.size 0 w ((w.alloc (.cells zeros 112)).alloc (.cells zeros 112)) := by
  refine ⟨?_, ?_, ((Below.refl _ _).alloc (Nat.le_refl _) _).alloc (by simp) _⟩
  · rw [partA_zero]
    have := heap_alloc_new (w.alloc (.cells zeros 112)) (.cells zeros 112)
    rwa [World.size_alloc] at this
  · rw [Below.heap_alloc _ _ _ (by simp)]
    exact heap_alloc_new w _
theorem ClsRel.cell {B k : Nat} {w wr : World} (h : ClsRel B k w wr) (i : Nat) : wr.cell? ⟨B + 1, i, none⟩ = (partA k)[i]? := cell_of_row wr _ i _ _ _ h.1
theorem ClsRel.frozen {B k : Nat} {w wr : World} (h : ClsRel B k w wr) (i : Nat) : wr.frozen? ⟨B + 1, i, none⟩ = false := by
  have := h.1
  simp [World.frozen?, this]
theorem ClsRel.set_ {B k : Nat} {w wr : World} (h : ClsRel B k w wr) (hk : k < 256) (v : Value) (hv : v = clsV0 k) : ClsRel B (k + 1) w (wr.setCell ⟨B + 1, k, none⟩ v) := by
  obtain ⟨h1, h2, h3⟩ := h
  refine ⟨?_, ?_, h3.setCell (p := ⟨B + 1, k, none⟩) (Nat.le_succ _) _⟩
  · rw [← partA_set k hk v hv]
    simp [World.setCell, Array.getElem?_modify, h1]
  · rw [Below.heap_setCell _ _ _ _ (by simp)]
    exact h2
theorem ClsRel.stay {B k : Nat} {w wr : World} (h : ClsRel B k w wr) (hk : k < 256) (hv : cls0 k = 0) : ClsRel B (k + 1) w wr := by
  obtain ⟨h1, h2, h3⟩ := h
  exact ⟨by rw [partA_stay k hk hv]; exact h1, h2, h3⟩

set_option maxRecDepth 100000 in
set_option maxHeartbeats 2000000 in
theorem classes_any (w : World) :
    Calls Try.prog 80 #[] w fun e w' => e = .returned (.agg clsArr) ∧ Below w.heap.size w w' := by
  have hst := ClsRel.start w
  have HST := hide hst
  clear hst
  go_enter Try.func80, Try.ntmps80
  go_wp2
  go_loopw [4] (fun i wr => ∃ k : Nat, k ≤ 256 ∧ i = .int .i64 k ∧ Hid (ClsRel w.heap.size k w wr)) (fun i _ => 256 - (intOf i).toNat)
  case atStart => exact ⟨0, Nat.zero_le _, rfl, HST⟩
  case round =>
    clear HST
    obtain ⟨k, hk, rfl, hrel⟩ := hrel
    by_cases hlt : k < 256
    · have c1 : wr.cell? ⟨w.heap.size + 1, k, none⟩ = some (.int .u8 0) := (hrel.out.cell k).trans (partA_at k hlt)
      have f1 := hrel.out.frozen k
      cases hl : isLetter (UInt8.ofNat k)
      · have hl2 := hl
        rw [letter_k k hlt, Bool.or_eq_false_iff, decide_eq_false_iff_not, decide_eq_false_iff_not] at hl2
        have e1 : k < 97 ∨ 122 < k := by omega
        have e2 : k < 65 ∨ 90 < k := by omega
        clear hl2
        cases hd : isDigit (UInt8.ofNat k)
        · have hd2 := hd
          rw [digit_k k hlt, decide_eq_false_iff_not] at hd2
          have e3 : k < 48 ∨ 57 < k := by omega
          clear hd2
          have e12 : k < 65 ∨ (90 < k ∧ k < 97) ∨ 122 < k := by omega
          clear e1 e2
          cases hb : isBlank (UInt8.ofNat k)
          · have C1 := hide (fun w => index_blank k w _ hb)
            cases hs : isSym (UInt8.ofNat k)
            · have C2 := hide (fun w => index_sym k w _ hs)
              have hnew := hrel.out.stay hlt (by simp only [cls0, hl, hd, hb, hs]; rfl)
              have HN := hide hnew
              clear hnew hl hd hb hs c1 f1 hrel
              rcases e12 with e1 | ⟨e1, e2⟩ | e1 <;> rcases e3 with e3 | e3 <;> try (exfalso; omega)
              all_goals
                go_wp2_with (go_at_call 86; first | (refine (C1.out _).mono ?_; rintro e w' ⟨⟨n, rfl, hn⟩, rfl⟩) | (refine (C2.out _).mono ?_; rintro e w' ⟨⟨n2, rfl, hn2⟩, rfl⟩))
                go_roundw
                case rel => exact ⟨k + 1, by omega, by go_num, HN⟩
                case measure => simp [intOf]; omega
            · have C2 := hide (fun w => index_sym k w _ hs)
              have hv : Value.int .u8 6 = clsV0 k := by simp only [clsV0, cls0, hl, hd, hb, hs]; rfl
              have hnew := hrel.out.set_ hlt _ hv
              have HN := hide hnew
              clear hnew hl hd hb hs hv hrel
              rcases e12 with e1 | ⟨e1, e2⟩ | e1 <;> rcases e3 with e3 | e3 <;> try (exfalso; omega)
              all_goals
                go_wp2_with (go_at_call 86; first | (refine (C1.out _).mono ?_; rintro e w' ⟨⟨n, rfl, hn⟩, rfl⟩) | (refine (C2.out _).mono ?_; rintro e w' ⟨⟨n2, rfl, hn2⟩, rfl⟩))
                go_roundw
                case rel => exact ⟨k + 1, by omega, by go_num, HN⟩
                case measure => simp [intOf]; omega
          · have C1 := hide (fun w => index_blank k w _ hb)
            have hv : Value.int .u8 1 = clsV0 k := by simp only [clsV0, cls0, hl, hd, hb]; rfl
            have hnew := hrel.out.set_ hlt _ hv
            have HN := hide hnew
            clear hnew hl hd hb hv hrel
            rcases e12 with e1 | ⟨e1, e2⟩ | e1 <;> rcases e3 with e3 | e3 <;> try (exfalso; omega)
            all_goals
              go_wp2_with (go_at_call 86; refine (C1.out _).mono ?_; rintro e w' ⟨⟨n, rfl, hn⟩, rfl⟩)
              go_roundw
              case rel => exact ⟨k + 1, by omega, by go_num, HN⟩
              case measure => simp [intOf]; omega
        · have hd2 := hd
          rw [digit_k k hlt, decide_eq_true_eq] at hd2
          obtain ⟨d1, d2⟩ := hd2
          have hv : Value.int .u8 4 = clsV0 k := by simp only [clsV0, cls0, hl, hd]; rfl
          have hnew := hrel.out.set_ hlt _ hv
          have HN := hide hnew
          clear hnew hv hl hd e2
          have e1 : k < 97 := by omega
          go_wp2
          go_roundw
          case rel => exact ⟨k + 1, by omega, by go_num, HN⟩
          case measure => simp [intOf]; omega
      · have hl2 := hl
        rw [letter_k k hlt, Bool.or_eq_true, decide_eq_true_eq, decide_eq_true_eq] at hl2
        have hv : Value.int .u8 3 = clsV0 k := by simp only [clsV0, cls0, hl]; rfl
        have hnew := hrel.out.set_ hlt _ hv
        have HN := hide hnew
        clear hnew hv hl
        rcases hl2 with ⟨d1, d2⟩ | ⟨d1, d2⟩
        · go_wp2
          go_roundw
          case rel => exact ⟨k + 1, by omega, by go_num, HN⟩
          case measure => simp [intOf]; omega
        · go_wp2
          go_roundw
          case rel => exact ⟨k + 1, by omega, by go_num, HN⟩
          case measure => simp [intOf]; omega
    · obtain rfl : k = 256 := by omega
      have c1 : wr.cell? ⟨w.heap.size + 1, 35, none⟩ = some (clsV0 35) := (hrel.out.cell 35).trans (partA_full 35 (by omega))
      have c2 : wr.cell? ⟨w.heap.size + 1, 95, none⟩ = some (clsV0 95) := (hrel.out.cell 95).trans (partA_full 95 (by omega))
      have c3 : wr.cell? ⟨w.heap.size + 1, 34, none⟩ = some (clsV0 34) := (hrel.out.cell 34).trans (partA_full 34 (by omega))
      have f1 := hrel.out.frozen 35
      have f2 := hrel.out.frozen 95
      have f3 := hrel.out.frozen 34
      obtain ⟨g1, g2, g3⟩ := hrel.out
      have G1 : Hid ((((wr.setCell ⟨w.heap.size + 1, 35, none⟩ (.int .u8 2)).setCell ⟨w.heap.size + 1, 95, none⟩ (.int .u8 5)).setCell ⟨w.heap.size + 1, 34, none⟩ (.int .u8 7)).heap[w.heap.size + 1]? = some (.cells clsArr 112 (0, 0))) := by
        show _ = _
        rw [← cls_final]
        simp [World.setCell, Array.getElem?_modify, g1]
      have G2 : Hid ((((wr.setCell ⟨w.heap.size + 1, 35, none⟩ (.int .u8 2)).setCell ⟨w.heap.size + 1, 95, none⟩ (.int .u8 5)).setCell ⟨w.heap.size + 1, 34, none⟩ (.int .u8 7)).heap[w.heap.size]? = some (.cells zeros 112 (0, 0))) := by
        show _ = _
        rw [Below.heap_setCell _ _ _ _ (by simp), Below.heap_setCell _ _ _ _ (by simp), Below.heap_setCell _ _ _ _ (by simp)]
        exact g2
      have G3 := hide (((g3.setCell (p := ⟨w.heap.size + 1, 35, none⟩) (Nat.le_succ _) (.int .u8 2)).setCell (p := ⟨w.heap.size + 1, 95, none⟩) (Nat.le_succ _) (.int .u8 5)).setCell (p := ⟨w.heap.size + 1, 34, none⟩) (Nat.le_succ _) (.int .u8 7))
      clear g1 g2 g3 hrel
      go_wp2_with (first
        | (refine wpList_load_row rfl 112 (.tmp 1) rfl (w.heap.size + 1) rfl 112 clsArr (0, 0) _ G1.out Try.underlying112 rfl (by rw [clsArr_size]; exact info_classes) ?_)
        | (refine wpList_store_row rfl 112 (.tmp 0) (.tmp 49) rfl w.heap.size clsArr rfl rfl 112 zeros G2.out (by rw [clsArr_size]; exact info_classes) (by rw [clsArr_size]; simp [zeros]) clsArr_one ?_))
      refine bodyPost_ret (v := .agg clsArr) (results_cell_row rfl _ _ w.heap.size 112 clsArr (0, 0) _ rfl (setRow_heap _ _ _ _ _ _ G2.out) Try.underlying112 rfl (by rw [clsArr_size]; exact info_classes)) rfl ⟨rfl, ?_⟩
      exact G3.out.trans ⟨rfl, rfl, rfl, by simp [World.setRow], fun i hi => setRow_other _ _ _ _ (by omega)⟩

end Go.Proofs.Ytpiocaomlifljaa
/-! The class of each byte, and the lexer's Name, walked over the classes. -/
namespace Go.Proofs.Ytpiocaomlifljaa
open Go.RowKit Go.Proofs.PlLex

theorem clsArr_at (c : UInt8) : clsArr[c.toNat]? = some (clsV c.toNat) := by
  have := c.toNat_lt
  simp [clsArr, this]
/-- The class of a byte. -/
def clsB (c : UInt8) : Int := (cls c.toNat : Int)
theorem all_bytes (p : UInt8 → Bool) (h : ∀ n : Fin 256, p (UInt8.ofNat n) = true) (c : UInt8) : p c = true := by
  have := h ⟨c.toNat, c.toNat_lt⟩
  simpa using this
theorem cls_bounds (c : UInt8) : 0 ≤ clsB c ∧ clsB c ≤ 7 := by
  have := all_bytes (fun c => decide (0 ≤ clsB c ∧ clsB c ≤ 7)) (by decide +kernel) c
  simpa using this
theorem cls_letter (c : UInt8) : (clsB c == 3) = isLetter c := by
  have := all_bytes (fun c => (clsB c == 3) == isLetter c) (by decide +kernel) c
  simpa using this
theorem cls_digit (c : UInt8) : (clsB c == 4) = isDigit c := by
  have := all_bytes (fun c => (clsB c == 4) == isDigit c) (by decide +kernel) c
  simpa using this
theorem cls_blank (c : UInt8) : (clsB c == 1) = isBlank c := by
  have := all_bytes (fun c => (clsB c == 1) == isBlank c) (by decide +kernel) c
  simpa using this
theorem cls_hash (c : UInt8) : (clsB c == 2) = (c == 35) := by
  have := all_bytes (fun c => (clsB c == 2) == (c == 35)) (by decide +kernel) c
  simpa using this
theorem cls_quote (c : UInt8) : (clsB c == 7) = (c == 34) := by
  have := all_bytes (fun c => (clsB c == 7) == (c == 34)) (by decide +kernel) c
  simpa using this
theorem cls_sym (c : UInt8) : (clsB c == 6) = isSym c := by
  have := all_bytes (fun c => (clsB c == 6) == isSym c) (by decide +kernel) c
  simpa using this
theorem cls_word (c : UInt8) : (clsB c == 3 || clsB c == 4 || clsB c == 5) = isWord c := by
  have := all_bytes (fun c => (clsB c == 3 || clsB c == 4 || clsB c == 5) == isWord c) (by decide +kernel) c
  simpa using this

set_option maxRecDepth 100000 in
set_option maxHeartbeats 1000000 in
theorem pname_any (s : ByteArray) (w : World) (hs : s.size ≤ maxLen) :
    Calls Try.prog 69 #[.string s] w fun e w' => e = .returned (.bool (name s.data.toList)) ∧ Below w.heap.size w w' := by
  unfold maxLen at hs
  obtain ⟨R, hR⟩ : ∃ R, R = name s.data.toList := ⟨_, rfl⟩
  rw [← hR]
  have HR := hide hR
  clear hR
  go_enter Try.func69, Try.ntmps69
  go_wp2_with fail
  refine (classes_any _).mono ?_
  rintro e w1 ⟨rfl, hb⟩
  go_wp2_with (refine wpList_store_row rfl 112 (.tmp 3) (.tmp 6) rfl w1.heap.size clsArr rfl rfl 112 zeros (heap_alloc_new w1 _) (by rw [clsArr_size]; exact info_classes) (by rw [clsArr_size]; simp [zeros]) clsArr_one ?_; rw [World.setRow_alloc_new])
  have hcl := fun c : UInt8 => cell_of_row (w1.alloc (.cells clsArr 112)) w1.heap.size c.toNat clsArr _ _ (heap_alloc_new w1 _)
  have HCL := hide hcl
  have HB := hide (hb.alloc hb.size (.cells clsArr 112))
  clear hb hcl
  go_loop [9] (fun i => ∃ k : Nat, k ≤ s.size ∧ i = .int .i64 k ∧ Hid ((k = 0 ∨ headLetter s.data.toList = true) ∧ allWord (s.data.toList.drop k) = allWord s.data.toList)) (fun i => s.size - (intOf i).toNat)
  case atStart => exact ⟨0, Nat.zero_le _, rfl, .inl rfl, rfl⟩
  case round =>
    obtain ⟨k, hk, rfl, hrel⟩ := hrel
    by_cases hlt : k < s.size
    · have hd := hide (drop_cons s k hlt)
      have hc : (w1.alloc (.cells clsArr 112)).cell? ⟨w1.heap.size, s[k].toNat, none⟩ = some (.int .u8 (clsB s[k])) := by
        rw [HCL.out, clsArr_at]; rfl
      have hb : s[k].toNat < 256 := s[k].toNat_lt
      have hb2 : (s[k].toNat : Int) < 256 := by omega
      have e3 := cls_letter s[k]
      have ew := cls_word s[k]
      cases hl : isLetter s[k]
      · have t3 : (clsB s[k] != 3) = true := by rw [bne, e3, hl]; rfl
        rcases Nat.eq_zero_or_pos k with h0 | h0
        · subst h0
          have HF : Hid (R = false) := by
            show _ = _
            have e := hd.out
            rw [List.drop_zero] at e
            rw [HR.out, name_eq, show headLetter s.data.toList = false from by rw [e]; exact hl]
            simp
          clear e3 ew hl
          go_wp2
          go_ret
          exact ⟨ret_bool HF.out.symm, HB.out⟩
        · have t0 : ((k : Int) == 0) = false := by rw [beq_eq_false_iff_ne]; omega
          cases hw : isWord s[k]
          · rw [e3, hl, hw, Bool.false_or, Bool.or_eq_false_iff] at ew
            have t4 : (clsB s[k] != 4) = true := by rw [bne, ew.1]; rfl
            have t5 : (clsB s[k] != 5) = true := by rw [bne, ew.2]; rfl
            have HF : Hid (R = false) := by
              show _ = _
              rw [HR.out, name_eq, ← hrel.out.2, hd.out]
              simp [allWord, hw]
            clear e3 ew hl hw
            go_wp2
            go_ret
            exact ⟨ret_bool HF.out.symm, HB.out⟩
          · rw [e3, hl, hw, Bool.false_or] at ew
            have hn : Hid ((k + 1 = 0 ∨ headLetter s.data.toList = true) ∧ allWord (s.data.toList.drop (k + 1)) = allWord s.data.toList) := by
              refine ⟨.inr (hrel.out.1.resolve_left (by omega)), ?_⟩
              rw [← hrel.out.2, hd.out]
              simp [allWord, hw]
            cases h4 : (clsB s[k] == 4)
            · have t4 : (clsB s[k] != 4) = true := by rw [bne, h4]; rfl
              rw [h4, Bool.false_or] at ew
              have t5 : (clsB s[k] != 5) = false := by rw [bne, ew]; rfl
              clear e3 ew hl hw h4 hrel
              go_wp2
              go_round
              case rel => exact ⟨k + 1, by omega, by go_num, hn⟩
              case measure => simp [intOf]; omega
            · have t4 : (clsB s[k] != 4) = false := by rw [bne, h4]; rfl
              clear e3 ew hl hw h4 hrel
              go_wp2
              go_round
              case rel => exact ⟨k + 1, by omega, by go_num, hn⟩
              case measure => simp [intOf]; omega
      · have t3 : (clsB s[k] != 3) = false := by rw [bne, e3, hl]; rfl
        have hn : Hid ((k + 1 = 0 ∨ headLetter s.data.toList = true) ∧ allWord (s.data.toList.drop (k + 1)) = allWord s.data.toList) := by
          refine ⟨.inr ?_, ?_⟩
          · rcases hrel.out.1 with h0 | h0
            · subst h0
              have e := hd.out
              rw [List.drop_zero] at e
              rw [e]; exact hl
            · exact h0
          · rw [← hrel.out.2, hd.out]
            simp [allWord, letter_word _ hl]
        clear e3 ew hl hrel
        go_wp2
        go_round
        case rel => exact ⟨k + 1, by omega, by go_num, hn⟩
        case measure => simp [intOf]; omega
    · obtain rfl : s.size = k := by omega
      have hall : allWord s.data.toList = true := by
        rw [← hrel.out.2, drop_end s _ hlt]; rfl
      by_cases h0 : s.size = 0
      · have hnil : s.data.toList = [] := by have := drop_end s 0 (by omega); simpa using this
        have hemp : s.toList = [] := by rw [ByteArray.toList_eq, hnil]
        have HF : Hid (R = false) := by show _ = _; rw [HR.out, hnil]; rfl
        have hemp2 : s.toList.isEmpty = true := by rw [hemp]; rfl
        clear hnil hall
        go_wp2
        go_ret
        exact ⟨ret_bool HF.out.symm, HB.out⟩
      · have hh : headLetter s.data.toList = true := hrel.out.1.resolve_left h0
        have HF : Hid (R = decide (s.size ≤ 24)) := by show _ = _; rw [HR.out, name_eq, hall, hh, size_list]; rfl
        have hne : s.toList ≠ [] := by
          rw [ByteArray.toList_eq]
          intro e
          have := congrArg List.length e
          rw [size_list] at this
          exact h0 (by simpa using this)
        have hemp2 : s.toList.isEmpty = false := by simpa using hne
        clear hall hh
        go_wp2
        go_ret
        exact ⟨ret_bool (by rw [HF.out, Bool.eq_iff_iff]; simp only [decide_eq_true_eq]; omega), HB.out⟩

end Go.Proofs.Ytpiocaomlifljaa
