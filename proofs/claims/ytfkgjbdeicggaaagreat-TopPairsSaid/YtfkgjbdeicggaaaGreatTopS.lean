/-
  The iterator over the parts of a slice, walked inside the wide fence: what it yields; packing's small functions.
-/
import Derived.Test.YtfkgjbdeicggaaaGreatTopQ
import Derived.Sort.QuietIn
import Derived.OneCell
import Derived.Test.YtfkgjbdeicggaaaGreatRows
import Derived.RangeFuncNested
import Derived.RangeFuncBound
import Derived.RangeFuncCalls
import Derived.RangeFuncLeaves
import Derived.Shelf.Abstract
import Derived.Shelf.RegionOpen
import Derived.OwnWalkIn
import Derived.TacticsInMore
import Derived.LoopNIn
import Derived.LoopIn
import Derived.IntWalk
namespace Go.Proofs.YtfkgjbdeicggaaaGreat
open Go.RowKit Go.Proofs.PlGeom Go.Proofs.PlTop
attribute [local go_sem] Oper.semAt_some

/-- The number of a part. -/
abbrev Cx (n m : Nat) := {j : Nat // j * n < m}
/-- The part: its place and its length. -/
def ckV (g o n m j : Nat) : Value := .slice (some ⟨g, o + j * n, none⟩) (min n (m - j * n)) (min n (m - j * n))
def encC (g o n m : Nat) (x : Cx n m) : Array Value := #[ckV g o n m x.1]
/-- The boxes that the iterator reads. -/
structure Ck (B1 B2 g o n m c : Nat) (W : World) : Prop where
  s : W.heap[B1]? = some (.cells #[.slice (some ⟨g, o, none⟩) m c] 153 (0, 0))
  n : W.heap[B2]? = some (.cells #[.int .i64 (n : Nat)] 3 (0, 0))
/-- What a round keeps. -/
def Kb (B1 B2 : Nat) (W W' : World) : Prop := W.heap.size ≤ W'.heap.size ∧ ∀ b, (b = B1 ∨ b = B2) → ∀ o, W.heap[b]? = some o → o.isCells = true → W'.heap[b]? = some o
theorem Kb.trans {B1 B2 : Nat} {X Y Z : World} (h : Kb B1 B2 X Y) (k : Kb B1 B2 Y Z) : Kb B1 B2 X Z := ⟨Nat.le_trans h.1 k.1, fun b hb o ho hc => k.2 b hb o (h.2 b hb o ho hc) hc⟩
theorem Kb.putObj {B1 B2 : Nat} (W : World) (l : Nat) (o o' : Obj) (h1 : W.heap[l]? = some o) (h2 : o.isCells = false) : Kb B1 B2 W (W.putObj l o') := by
  have hg := grownBy_putObj' W l o'
  refine ⟨hg.size, fun b _ ob hob hc => ?_⟩
  refine (hg.block b (Array.getElem?_eq_some_iff.1 hob).1 (fun e => ?_)).trans hob
  cases e
  rw [h1] at hob
  cases hob
  rw [h2] at hc
  cases hc
theorem Kb.grown {B1 B2 : Nat} {W W' : World} {row : Option Nat} (h : W.grownBy W' row) (hr : ∀ r, row = some r → r ≠ B1 ∧ r ≠ B2) : Kb B1 B2 W W' := ⟨h.size, fun b hb _ hob _ => (h.block b (Array.getElem?_eq_some_iff.1 hob).1 (fun e => by
  obtain ⟨h1, h2⟩ := hr b e.symm
  rcases hb with rfl | rfl
  · exact h1 rfl
  · exact h2 rfl)).trans hob⟩
theorem Kb.below {B1 B2 : Nat} {W W' : World} (h : Below W.heap.size W W') : Kb B1 B2 W W' := Kb.grown (row := none) ⟨h.os, h.tape, h.output, h.size, fun i hi _ => h.block i hi⟩ (fun r e => by cases e)
theorem Ck.kept {B1 B2 g o n m c : Nat} {W W' : World} (h : Ck B1 B2 g o n m c W) (k : Kb B1 B2 W W') : Ck B1 B2 g o n m c W' := ⟨k.2 _ (.inl rfl) _ h.s rfl, k.2 _ (.inr rfl) _ h.n rfl⟩
theorem kbOwn (B1 B2 n0 : Nat) (W : World) : OwnFrom n0 (fun (_ : Unit) W' => Kb B1 B2 W W') := fun _ _ _ _ h hg hr => by
  refine ⟨Nat.le_trans h.1 hg.size, fun b hb ob hob hc => ?_⟩
  have hx := h.2 b hb ob hob hc
  refine (hg.block b (Array.getElem?_eq_some_iff.1 hx).1 (fun e => ?_)).trans hx
  obtain ⟨_, o, ho, hco⟩ := hr b e.symm
  rw [hx] at ho
  cases ho
  rw [hc] at hco
  cases hco
theorem below_ckN (w : World) (n : Nat) : Below w.heap.size w (w.drewN n) := ⟨rfl, rfl, rfl, Nat.le_refl _, fun _ _ => rfl⟩
/-- A piece of code that ends as it goes on, and no other way. -/
def NormalPost (R : Act → World → Prop) : Exit → Act → World → Prop
  | .normal, a, w => R a w
  | _, _, _ => False
theorem NormalPost.imp {R : Act → World → Prop} {Q : Exit → Act → World → Prop} (h : ∀ a w, R a w → Q .normal a w) : ∀ e a w, NormalPost R e a w → Q e a w := fun e a w hh => by
  cases e <;> first | exact h a w hh | exact (hh : False).elim
theorem cut_all (m n k : Nat) (h1 : m ≤ k * n) (h : ∀ j, j < k → j * n < m) (h2 : 1 ≤ n) : cntC n m = k := by
  rcases Nat.lt_trichotomy (cntC n m) k with e | e | e
  · have := h _ e
    exact absurd ((cntC_lt h2).2 this) (Nat.lt_irrefl _)
  · exact e
  · have := (cntC_lt h2).1 e
    omega
set_option maxRecDepth 100000 in
set_option maxHeartbeats 4000000 in
theorem chunk_in (f : Nat) (hf : 1 ≤ f) (l B1 B2 g o n m c : Nat) (hn : 1 ≤ n) (hn2 : n ≤ 1000000) (hm : m ≤ 1000000) (hmc : m ≤ c) (J Jx : List (Cx n m) → World → Prop) (W : World) (hJ : AbidesFrom W.heap.size J)
    (hY : ∀ pre x W1, J pre W1 → pre.length < m → YieldAt Fence.wide (f - 1) Tryz.prog l (encC g o n m x) W1 fun e W' =>
      (e = .returned (.bool true) ∧ J (pre ++ [x]) W' ∧ Kb B1 B2 W1 W') ∨ (e = .returned (.bool false) ∧ Jx (pre ++ [x]) W'))
    (hI : Ck B1 B2 g o n m c W) (h0 : J [] W) :
    CallsIn Fence.wide f Tryz.prog 231 #[.func (.yield l) #[] #[], .pointer (some ⟨B1, 0, none⟩), .pointer (some ⟨B2, 0, none⟩)] W fun e W' => (∃ v, e = .returned v) ∧
      ((∃ xs : List (Cx n m), xs.map (·.1) = List.range (cntC n m) ∧ J xs W') ∨ (∃ pre, True ∧ Jx pre W')) := by
  have HY := hide hY
  have HJ := hide hJ
  clear hY hJ
  have hbox := (cell_of_row _ B1 0 _ _ _ hI.s)
  refine callsIn_of_wp Tryz.func231 rfl trivial ?_ rfl
  simp only [Tryz.ntmps231, List.size_toArray, List.length_cons, List.length_nil, Nat.reduceAdd, Nat.reduceSub, Array.replicate_succ, Array.replicate_zero, List.push_toArray, List.append_toArray, List.nil_append, List.cons_append]
  gi_wp2
  clear hbox
  gi_loopw [4] (fun i wr => ∃ (k i0 : Nat) (pre : List (Cx n m)), i0 = k * n ∧ i = .int .i64 (i0 : Nat) ∧ Hid (pre.map (·.1) = List.range k) ∧ Hid (∀ j, j < k → j * n < m) ∧ i0 ≤ m + n ∧ Hid (Ck B1 B2 g o n m c wr) ∧ Hid (J pre wr) ∧ W.heap.size ≤ wr.heap.size) (fun i _ => m - (intOf i).toNat)
  case atStart => exact ⟨0, 0, [], (Nat.zero_mul n).symm, rfl, rfl, fun j hj => absurd hj (Nat.not_lt_zero j), Nat.zero_le _, hI, h0, Nat.le_refl _⟩
  case round =>
    clear hI h0
    obtain ⟨k, i0, pre, hi0, rfl, hpre, hall, hle, hck, hj, hsz⟩ := hrel
    have c1 := cell_of_row _ B1 0 _ _ _ hck.out.s
    have c2 := cell_of_row _ B2 0 _ _ _ hck.out.n
    by_cases hlt : i0 < m
    · have k0 : (0 : Int) ≤ (i0 : Nat) := by omega
      have k1 : ((i0 : Nat) : Int) < (m : Nat) := by omega
      have k2 : ¬ ((c : Nat) : Int) = (i0 : Nat) := by omega
      have k3 : ¬ c = i0 := by omega
      have k4 : ((i0 : Nat) : Int) ≤ (m : Nat) := by omega
      have k5 : ((m : Nat) : Int) ≤ (c : Nat) := by omega
      obtain ⟨x, hx⟩ : ∃ x : Cx n m, x.1 = k := ⟨⟨k, by rw [← hi0]; exact hlt⟩, rfl⟩
      have hplen : pre.length < m := by
        have := congrArg List.length hpre.out
        rw [List.length_map, List.length_range] at this
        rw [this]
        rcases Nat.lt_or_ge k m with h | h
        · exact h
        · have := Nat.mul_le_mul h hn
          omega
      obtain ⟨E, hE⟩ : ∃ E, E = min n (m - i0) := ⟨_, rfl⟩
      have HIF : Hid ((if m - i0 < n then ((m - i0 : Nat) : Int) else ((n : Nat) : Int)) = (E : Nat)) := hide (by split <;> omega)
      have e1 : i0 + E ≤ m := by omega
      have e2 : 1 ≤ E := by omega
      have HHY := hide (fun q => HY.out pre x (wr.drewN q) (HJ.out _ wr _ none hj.out ⟨rfl, rfl, rfl, Nat.le_refl _, fun k hk _ => rfl⟩ (fun r e => by cases e)) hplen)
      have HX := hide hx
      have HI0 := hide hi0
      have HE := hide hE
      clear hx hi0 hE
      gi_wp2
      gi_quiet (fail)
      rw [HIF.out]
      have HCK := hide (hck.out.kept (Kb.below (below_ckN wr nq)))
      obtain ⟨fn, tmps, assign, body, hy, hR⟩ := HHY.out nq
      unfold encC ckV at hy
      rw [HX.out, ← HI0.out, ← HE.out] at hy
      have HRR := hide (hR.mono (R' := fun e W' => ∃ b, e = .returned (.bool b) ∧ Hid ((b = true ∧ J (pre ++ [x]) W' ∧ Kb B1 B2 (wr.drewN nq) W') ∨ (b = false ∧ Jx (pre ++ [x]) W'))) (by
        rintro e W3 (⟨rfl, h2, h3⟩ | ⟨rfl, h2⟩)
        · exact ⟨true, rfl, .inl ⟨rfl, h2, h3⟩⟩
        · exact ⟨false, rfl, .inr ⟨rfl, h2⟩⟩))
      have d1 := cell_of_row _ B1 0 _ _ _ HCK.out.s
      have d2 := cell_of_row _ B2 0 _ _ _ HCK.out.n
      have f0 : ((i0 : Nat) : Int) ≤ ((i0 : Nat) : Int) + (E : Nat) := by omega
      have f1 : ((i0 : Nat) : Int) + (E : Nat) ≤ (c : Nat) := by omega
      have f2 : IntKind.i64.wrap (((i0 : Nat) : Int) + (E : Nat)) = ((i0 : Nat) : Int) + (E : Nat) := IntWalk.i64_in _ (by omega)
      clear hR hck hj c1 c2 HIF
      have hsz : W.heap.size ≤ (wr.drewN nq).heap.size := hsz
      generalize wr.drewN nq = wd at *
      have f3 : IntKind.i64.wrap (((i0 : Nat) : Int) + (n : Nat)) = ((i0 + n : Nat) : Int) := by rw [IntWalk.i64_in _ (by omega)]; push_cast; rfl
      have HL := hide hle
      have HLT := hide hlt
      gi_wp2_with (refine HRR.out.mono ?_; rintro e W3 ⟨b, rfl, hb⟩; rcases hb.out with ⟨rfl, hj3, hk3⟩ | ⟨rfl, hj3⟩; first | (have q2 := cell_of_row _ B2 0 _ _ _ (HCK.out.kept hk3).n; have HJ3 := hide hj3; have HK3 := hide hk3; clear hb hj3 hk3) | (have HJ3 := hide hj3; clear hb hj3))
      go_roundw
      case rel =>
        refine ⟨k + 1, i0 + n, pre ++ [x], by rw [HI0.out, Nat.succ_mul], by first | rfl | go_num, hide ?_, hide (fun j hj => ?_), by have := HLT.out; omega, hide (HCK.out.kept HK3.out), HJ3, ?_⟩
        · rw [List.map_append, hpre.out, List.range_succ, List.map_cons, List.map_nil, HX.out]
        · by_cases e : j = k
          · rw [e, ← HI0.out]; exact HLT.out
          · exact hall.out j (by omega)
        · exact Nat.le_trans hsz HK3.out.1
      case measure => have := HLT.out; simp [intOf]; omega
      exact bodyPost_ret (results_none rfl _ _ _) rfl ⟨⟨_, rfl⟩, .inr ⟨pre ++ [x], trivial, hj3⟩⟩
    · have hk : cntC n m = k := cut_all m n k (by omega) hall.out hn
      clear hi0
      have k1 : ¬ ((i0 : Nat) : Int) < (m : Nat) := by omega
      have HK := hide hk
      clear hk hle hlt hck
      gi_wp2
      go_end0
      exact ⟨⟨_, rfl⟩, .inl ⟨pre, by rw [HK.out]; exact hpre.out, hj.out⟩⟩
theorem chunk_stops (f : Nat) (hf : 1 ≤ f) (B1 B2 g o n m c : Nat) (hn : 1 ≤ n) (hn2 : n ≤ 1000000) (hm : m ≤ 1000000) (hmc : m ≤ c) (w : World) (hI : Ck B1 B2 g o n m c w) :
    SeqStopsK Fence.wide f Tryz.prog 231 #[.pointer (some ⟨B1, 0, none⟩), .pointer (some ⟨B2, 0, none⟩)] (encC g o n m) (Kb B1 B2) (fun xs => xs.map (·.1) = List.range (cntC n m)) (fun _ => True) m w :=
  fun l J Jx W hW hJ _ hY h0 => chunk_in f hf l B1 B2 g o n m c hn hn2 hm hmc J Jx W hJ hY (hI.kept (Kb.below hW)) h0
end Go.Proofs.YtfkgjbdeicggaaaGreat
