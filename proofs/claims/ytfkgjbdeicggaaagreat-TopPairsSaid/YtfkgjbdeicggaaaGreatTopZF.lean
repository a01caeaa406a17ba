/-
  The law's small functions: numbers as texts, boxes of segments.
-/
import Derived.Test.YtfkgjbdeicggaaaGreatTopZE
import Derived.Test.YtfkgjbdeicggaaaGreatLexG
namespace Go.Proofs.YtfkgjbdeicggaaaGreat
open Go.RowKit Go.Proofs.PlLex Go.Proofs.PlNet Go.Proofs.PlMap Go.Proofs.PlGeom Go.Proofs.PlTop

/-! Numbers as texts. -/
def decI (i : Nat) : BA := decText 5 (i : Int)
theorem dec_any (i : Nat) (hi : i < 10000) (w : World) : Calls Tryz.prog 22 #[.int .i64 (i : Nat)] w fun e w' => e = .returned (.string (decI i)) ∧ w = w' :=
  decimal_any 4 i w (by omega) (by omega) (by simpa using (by omega : (i : Int) < 10000)) (by omega)
theorem decI_size (i : Nat) : (decI i).size ≤ 100000 := Nat.le_trans (decText_size 5 _) (by omega)
def valD (l : List UInt8) : Nat := l.foldl (fun a d => a * 10 + (d.toNat - 48)) 0
theorem dgt_val (n : Nat) (h : n < 10) : (dgt n).toNat - 48 = n := by
  match n, h with
  | 0, _ => rfl
  | 1, _ => rfl
  | 2, _ => rfl
  | 3, _ => rfl
  | 4, _ => rfl
  | 5, _ => rfl
  | 6, _ => rfl
  | 7, _ => rfl
  | 8, _ => rfl
  | 9, _ => rfl
theorem valD_decimal : ∀ (f n : Nat), n < 10 ^ f → valD (decimal f n) = n
  | 0, n, h => by
    have : n = 0 := by simpa using h
    rw [this]
    rfl
  | f + 1, n, h => by
    rw [decimal]
    split
    · rename_i h10
      show 0 * 10 + ((dgt n).toNat - 48) = n
      rw [dgt_val n h10]
      omega
    · have ih := valD_decimal f (n / 10) (by rw [Nat.pow_succ] at h; omega)
      unfold valD at ih ⊢
      rw [List.foldl_append, ih]
      show n / 10 * 10 + ((dgt (n % 10)).toNat - 48) = n
      rw [dgt_val _ (by omega)]
      omega
theorem decI_inj {i k : Nat} (hi : i < 10000) (hk : k < 10000) (h : decI i = decI k) : i = k := by
  unfold decI decText at h
  have h1 : decimal 5 i = decimal 5 k := by
    have := congrArg (fun b : ByteArray => b.data.toList) h
    simpa using this
  have h2 := valD_decimal 5 i (by omega)
  rw [h1, valD_decimal 5 k (by omega)] at h2
  exact h2.symm

/-! Boxes of segments. -/
def sgV (s : Sg) : Value := .agg #[.int .i64 s.a.x, .int .i64 s.a.y, .int .i64 s.b.x, .int .i64 s.b.y]
set_option maxRecDepth 100000 in
set_option maxHeartbeats 4000000 in
theorem box_any (s : Sg) (w : World) : Calls Tryz.prog 23 #[sgV s] w fun e w' => e = .returned (.agg (bxC (boxS s))) ∧ Below w.heap.size w w' := by
  obtain ⟨⟨x0, y0⟩, ⟨x1, y1⟩⟩ := s
  unfold sgV
  simp only
  go_enter Tryz.func23, Tryz.ntmps23
  go_wp2_with fail
  exact bodyPost_ret (v := .agg (bxC (boxS ⟨⟨x0, y0⟩, ⟨x1, y1⟩⟩))) (by simp [results, Tryz.results23, go_sem, bxC, boxS]) rfl ⟨rfl, ((Below.refl _ _).alloc (Nat.le_refl _) _).alloc (by simp) _⟩
end Go.Proofs.YtfkgjbdeicggaaaGreat
