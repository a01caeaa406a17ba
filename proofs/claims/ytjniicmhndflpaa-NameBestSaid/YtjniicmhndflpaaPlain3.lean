/-
  The best name, in plain Lean.
-/
import Derived.Test.YtjniicmhndflpaaPlain2
import Derived.Lib.SlicesS
namespace Go.Proofs.PlName
open Go.Proofs.PlLex

def langO (t : Tg) : ByteArray := ⟨(langR t.k.data.toList).toArray⟩
/-- Where a language stands among those asked for: the nameless one behind them, others behind it. -/
def placeS (L : List ByteArray) (s : ByteArray) : Int := if 0 ≤ Go.Lib.idxOfS L s then Go.Lib.idxOfS L s else if s.toList = [] then (L.length : Int) else (L.length : Int) + 1
structure BsT where
  k : ByteArray
  v : ByteArray
  p : Int
def bestF (L : List ByteArray) (st : BsT) (t : Tg) : BsT := if placeS L (langO t) < st.p then ⟨t.k, t.v, placeS L (langO t)⟩ else st
def bestL (L : List ByteArray) (l : List Tg) : BsT := l.foldl (bestF L) ⟨⟨#[]⟩, ⟨#[]⟩, (L.length : Int) + 2⟩
theorem bestL_snoc (L : List ByteArray) (l : List Tg) (t : Tg) : bestL L (l ++ [t]) = bestF L (bestL L l) t := by unfold bestL; rw [List.foldl_append]; rfl
theorem bestL_nil (L : List ByteArray) : bestL L [] = ⟨⟨#[]⟩, ⟨#[]⟩, (L.length : Int) + 2⟩ := rfl
/-- What Best returns: the value and the key. -/
def bestR (l : List Tg) (L : List ByteArray) : BsT := if tagsB l then bestL L (namesL l) else ⟨⟨#[]⟩, ⟨#[]⟩, 0⟩
theorem idx_lt (L : List ByteArray) (s : ByteArray) : -1 ≤ Go.Lib.idxOfS L s ∧ Go.Lib.idxOfS L s < L.length := by
  have gen : ∀ (L : List ByteArray) (i : Nat), -1 ≤ Go.Lib.idxFromS L s i ∧ Go.Lib.idxFromS L s i < (i : Int) + L.length ∨ Go.Lib.idxFromS L s i = -1 := by
    intro L
    induction L with
    | nil => intro i; right; rfl
    | cons z L ih =>
      intro i
      unfold Go.Lib.idxFromS
      split
      · left; simp; omega
      · rcases ih (i + 1) with h | h
        · left; simp at h ⊢; omega
        · right; exact h
  rcases gen L 0 with h | h
  · unfold Go.Lib.idxOfS; omega
  · unfold Go.Lib.idxOfS; omega
theorem place_bd (L : List ByteArray) (s : ByteArray) : 0 ≤ placeS L s ∧ placeS L s ≤ (L.length : Int) + 1 := by
  have := idx_lt L s
  unfold placeS
  split
  · omega
  · split <;> omega
end Go.Proofs.PlName
