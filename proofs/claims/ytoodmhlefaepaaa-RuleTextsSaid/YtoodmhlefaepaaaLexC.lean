/-
  The reference lexer's str and next, walked.
-/
import Derived.Test.YtoodmhlefaepaaaLexB
namespace Go.Proofs.Ytoodmhlefaepaaa
open Go.RowKit Go.Proofs.PlLex

def strEnd (a : Nat) : Option (L × Nat) → Value
  | none => .tuple #[.string ⟨#[]⟩, .int .i64 0, .bool false]
  | some (t, n) => .tuple #[.string ⟨t.toArray⟩, .int .i64 ((a + 1 + n : Nat) : Int), .bool true]
def behind (q : L) (d : Nat) (r : Option (L × Nat)) : Option (L × Nat) := r.map fun x => (q ++ x.1, x.2 + d)
theorem esc_has (c : UInt8) : hasB [92, 34, 110] c = (c == 92 || c == 34 || c == 110) := by
  simp only [hasB, List.contains_cons, List.contains_nil, Bool.or_false, Bool.or_assoc]
theorem esc_any (c : UInt8) (b : Bool) (hb : (c == 92 || c == 34 || c == 110) = b) (w : World) :
    Calls Try.prog 45 #[.string ⟨#[92, 34, 110]⟩, .int .u8 c.toNat] w fun e w' => e = .returned (.bool b) ∧ w = w' := by
  have := has_any ⟨#[92, 34, 110]⟩ c w (by decide)
  rw [show (ByteArray.mk #[92, 34, 110]).data.toList = [92, 34, 110] from rfl, esc_has, hb] at this
  exact this
theorem strM_cons (c : UInt8) (l : L) : strM false (c :: l) = if c == 34 then some ([], 1) else if c == 10 then none else if c == 92 then (strM true l).map (fun r => (r.1, r.2 + 1)) else (strM false l).map (fun r => (c :: r.1, r.2 + 1)) := rfl
theorem strM_esc (d : UInt8) (l : L) : strM true (d :: l) = if d == 92 || d == 34 || d == 110 then (strM false l).map (fun r => ((if d == 110 then 10 else d) :: r.1, r.2 + 1)) else none := rfl
theorem ret_val {a b : Value} (h : a = b) : Ending.returned a = .returned b := by rw [h]
