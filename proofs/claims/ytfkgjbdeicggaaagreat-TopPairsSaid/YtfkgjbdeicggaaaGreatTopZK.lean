/-
  Boxes put into the index, one by one.
-/
import Derived.Test.YtfkgjbdeicggaaaGreatTopZH
import Derived.Test.YtfkgjbdeicggaaaGreatTopZF
import Derived.Test.YtfkgjbdeicggaaaGreatTopP
import Derived.Test.YtfkgjbdeicggaaaGreatPlainAll
namespace Go.Proofs.YtfkgjbdeicggaaaGreat
open Go.RowKit Go.Proofs.PlLex Go.Proofs.PlNet Go.Proofs.PlMap Go.Proofs.PlGeom Go.Proofs.PlTop

/-- While boxes are put into the index. -/
structure PtI (W0 W : World) (xa bm : Nat) (S : List Sg) (k : Nat) : Prop where
  ix : IxU W xa bm (ixL decI 0 (S.take k))
  below : Below W0.heap.size W0 W
theorem PtI.lift {W0 W W' : World} {xa bm : Nat} {S : List Sg} {k : Nat} (h : PtI W0 W xa bm S k) (hb : Below W.heap.size W W') : PtI W0 W' xa bm S k := ⟨h.ix.below hb, bto h.below hb⟩
theorem putk_any (W0 W : World) (xa bm : Nat) (S : List Sg) (k : Nat) (s : Sg) (h : PtI W0 W xa bm S k) (hs : S[k]? = some s) (h1 : W0.heap.size ≤ bm) (h2 : bm < xa) (hS : S.length ≤ 300) (hok : ∀ s ∈ S, okX (boxS s)) :
    Calls Tryz.prog 21 #[.pointer (some ⟨xa, 0, none⟩), .string (decI k), .agg (bxC (boxS s))] W fun e w' => e = .returned (.int .i64 0) ∧ PtI W0 w' xa bm S (k + 1) := by
  have hk := (List.getElem?_eq_some_iff.1 hs).1
  refine (put_any xa bm _ (decI k) (boxS s) W h.ix (ixL_fresh decI (n := 10000) (fun i j hi hj e => decI_inj hi hj e) (by omega) (by omega)) (decI_size k) (hok s (List.mem_of_getElem? hs)) (by rw [ixL_len, List.length_take]; omega)).mono ?_
  rintro e w' ⟨rfl, g1, g2, g3, g4, g5, g6⟩
  rw [← ixL_step decI hs] at g1
  exact ⟨rfl, g1, ⟨g4.trans h.below.os, g5.trans h.below.tape, g6.trans h.below.output, Nat.le_trans h.below.size g3, fun i hi => (g2 i (Nat.lt_of_lt_of_le hi h.below.size) (by omega) (by omega)).trans (h.below.block i hi)⟩⟩
end Go.Proofs.YtfkgjbdeicggaaaGreat
