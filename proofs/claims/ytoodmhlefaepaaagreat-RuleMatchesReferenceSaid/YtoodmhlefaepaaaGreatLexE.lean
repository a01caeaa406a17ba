/-
  Tokens in memory: when two are equal; a slice of tokens read as a list; the reference's Same and Alike, walked.
-/
import Derived.Test.YtoodmhlefaepaaaGreatLexD
import Derived.Deep.QuietTactic
import Derived.BigQuiet
namespace Go.Proofs.YtoodmhlefaepaaaGreat
open Go.RowKit Go.Proofs.PlLex

theorem below_drewN' {B : Nat} {a w : World} (h : Below B a w) (n : Nat) : Below B a (w.drewN n) := ⟨h.os, h.tape, h.output, h.size, h.block⟩

/-- Are two tokens equal, by their cells? -/
def tokEq (k1 a1 : Int) (s1 : ByteArray) (k2 a2 : Int) (s2 : ByteArray) : Bool := k1 == k2 && (s1.toList == s2.toList && a1 == a2)

@[go_sem ↓] theorem eqTok (k1 a1 : Int) (s1 : ByteArray) (k2 a2 : Int) (s2 : ByteArray) (w : World) :
    (Op.equalIn 10000 98 (.agg #[.int .i64 k1, .string s1, .int .i64 a1]) (.agg #[.int .i64 k2, .string s2, .int .i64 a2])).run Tryz.prog w = .ok (tokEq k1 a1 s1 k2 a2 s2) w := by
  have u3 := Tryz.underlying3
  have u9 := Tryz.underlying9
  have a3 := Tryz.isAgg3
  have z3 := Tryz.sizeOf3
  have a9 := Tryz.isAgg9
  have z9 := Tryz.sizeOf9
  have hS : Tryz.prog.underlying 98 = some (.struct (Tryz.prog.fieldsOf 98)) := by kernel_rfl
  have hp : Tryz.prog.stoodInHeld 98 = false := by kernel_rfl
  rw [show (10000 : Nat) = 9999 + 1 from rfl, run_equalIn_agg w 9999 98 _ _ hS hp]
  simp only [Program.fieldsOf, Tryz.underlying98]
  go_simp
  unfold tokEq
  by_cases h1 : k1 = k2 <;> by_cases h2 : s1.toList = s2.toList <;> by_cases h3 : a1 = a2 <;> simp [h1, h2, h3]

@[go_sem] theorem guardTok (op : BinOp) (x y : Operand) (xs ys : Array Value) (w : World) : (eqGuard op 98 x y (.agg xs) (.agg ys)).run Tryz.prog w = .ok () w :=
  run_eqGuard_agg w op 98 x y xs ys (by kernel_rfl)

/-- From block g, offset o on: tokens. -/
def TokAt (w : World) (g o : Nat) (ts : List Tok) : Prop :=
  ∀ i t, ts[i]? = some t → w.cell? ⟨g, o + i * 3, none⟩ = some (.int .i64 (t.kind : Int)) ∧ w.cell? ⟨g, o + i * 3 + 1, none⟩ = some (.string ⟨t.text.toArray⟩) ∧
    w.cell? ⟨g, o + i * 3 + 2, none⟩ = some (.int .i64 (t.off : Int)) ∧ t.off ≤ 1000000

/-- A slice of tokens, as it lies in memory. -/
def TokS (w : World) (v : Value) (ts : List Tok) : Prop :=
  ts.length ≤ 1000000 ∧ ((ts = [] ∧ ∃ A c, v = .slice A 0 c) ∨ ∃ g o c, v = .slice (some ⟨g, o, none⟩) ts.length c ∧ g < w.heap.size ∧ TokAt w g o ts)

theorem TokAt.below {w w' : World} {g o : Nat} {ts : List Tok} (h : TokAt w g o ts) (hg : g < w.heap.size) (hb : Below w.heap.size w w') : TokAt w' g o ts := by
  intro i t ht
  obtain ⟨h1, h2, h3, h4⟩ := h i t ht
  exact ⟨(hb.cell (p := ⟨g, _, none⟩) hg).trans h1, (hb.cell (p := ⟨g, _, none⟩) hg).trans h2, (hb.cell (p := ⟨g, _, none⟩) hg).trans h3, h4⟩
theorem TokS.below {w w' : World} {v : Value} {ts : List Tok} (h : TokS w v ts) (hb : Below w.heap.size w w') : TokS w' v ts := by
  obtain ⟨hl, h⟩ := h
  refine ⟨hl, ?_⟩
  rcases h with h | ⟨g, o, c, h1, h2, h3⟩
  · exact .inl h
  · exact .inr ⟨g, o, c, h1, Nat.lt_of_lt_of_le h2 hb.size, h3.below h2 hb⟩

def sameTok (d : Int) (x y : Tok) : Bool := tokEq x.kind (x.off + d) ⟨x.text.toArray⟩ y.kind y.off ⟨y.text.toArray⟩
def sameL (d : Int) : List Tok → List Tok → Bool
  | [], [] => true
  | x :: a, y :: b => sameTok d x y && sameL d a b
  | _, _ => false
theorem sameL_len (d : Int) (a b : List Tok) (h : a.length ≠ b.length) : sameL d a b = false := by
  induction a generalizing b with
  | nil => cases b with
    | nil => exact absurd rfl h
    | cons y b => rfl
  | cons x a ih => cases b with
    | nil => rfl
    | cons y b => simp only [sameL, ih b (by simpa using h), Bool.and_false]
theorem drop_tok (ts : List Tok) (k : Nat) (h : k < ts.length) : ts.drop k = ts[k] :: ts.drop (k + 1) := List.drop_eq_getElem_cons h

theorem alloc_cell {w : World} {a : Addr} {u : Value} (h : w.cell? a = some u) (ob : Obj) : (w.alloc ob).cell? a = some u :=
  (World.cell?_alloc_lt w ob a (by
    rcases Nat.lt_or_ge a.block w.heap.size with h1 | h1
    · exact h1
    · have : w.cell? a = none := by unfold World.cell?; simp [Array.getElem?_eq_none h1]
      rw [this] at h; cases h)).trans h

def alikeTok (x y : Tok) : Bool := x.kind == y.kind && x.text == y.text
def alikeL : List Tok → List Tok → Bool
  | [], [] => true
  | x :: a, y :: b => alikeTok x y && alikeL a b
  | _, _ => false
theorem alikeL_len (a b : List Tok) (h : a.length ≠ b.length) : alikeL a b = false := by
  induction a generalizing b with
  | nil => cases b with
    | nil => exact absurd rfl h
    | cons y b => rfl
  | cons x a ih => cases b with
    | nil => rfl
    | cons y b => simp only [alikeL, ih b (by simpa using h), Bool.and_false]
theorem toList_arr (l : L) : (ByteArray.mk l.toArray).toList = l := by rw [ByteArray.toList_eq]
