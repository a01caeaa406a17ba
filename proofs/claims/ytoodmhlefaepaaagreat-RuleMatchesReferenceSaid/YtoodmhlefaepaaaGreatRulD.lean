/-
  Parse, walked: the deferred closure first.
-/
import Derived.Test.YtoodmhlefaepaaaGreatRulC
import Derived.Defers
import Derived.Recover
import Derived.RegionTactic
import Derived.Deep.DeepCutAuto
import Derived.Deep.CutBlock
namespace Go.Proofs.YtoodmhlefaepaaaGreat
open Go.RowKit Go.Proofs.PlLex Go.Proofs.PlRule

theorem set3 {w : World} {b0 b1 b2 : Nat} {v0 v1 v2 : Value} {t0 t1 t2 : TypeId} (d01 : b0 ≠ b1) (d02 : b0 ≠ b2) (d12 : b1 ≠ b2) (h0 : w.heap[b0]? = some (.cells #[v0] t0 (0, 0))) (h1 : w.heap[b1]? = some (.cells #[v1] t1 (0, 0))) (h2 : w.heap[b2]? = some (.cells #[v2] t2 (0, 0))) (a b c : Value) :
    (((w.setCell ⟨b0, 0, none⟩ a).setCell ⟨b1, 0, none⟩ b).setCell ⟨b2, 0, none⟩ c).heap[b0]? = some (.cells #[a] t0 (0, 0)) ∧ (((w.setCell ⟨b0, 0, none⟩ a).setCell ⟨b1, 0, none⟩ b).setCell ⟨b2, 0, none⟩ c).heap[b1]? = some (.cells #[b] t1 (0, 0)) ∧ (((w.setCell ⟨b0, 0, none⟩ a).setCell ⟨b1, 0, none⟩ b).setCell ⟨b2, 0, none⟩ c).heap[b2]? = some (.cells #[c] t2 (0, 0)) ∧
    (∀ i, i < w.heap.size → i ≠ b0 → i ≠ b1 → i ≠ b2 → (((w.setCell ⟨b0, 0, none⟩ a).setCell ⟨b1, 0, none⟩ b).setCell ⟨b2, 0, none⟩ c).heap[i]? = w.heap[i]?) ∧ (((w.setCell ⟨b0, 0, none⟩ a).setCell ⟨b1, 0, none⟩ b).setCell ⟨b2, 0, none⟩ c).heap.size = w.heap.size := by
  have key : ∀ (W : World) g j v i, i < W.heap.size → i ≠ g → (W.setCell ⟨g, j, none⟩ v).heap[i]? = W.heap[i]? := fun W g j v i hi hn => (set_grown W g j v).block i hi (fun e => by cases e; exact hn rfl)
  have sz : ∀ (W : World) g j v, (W.setCell ⟨g, j, none⟩ v).heap.size = W.heap.size := fun W g j v => by simp [World.setCell]
  have l0 := lt_of_blk h0
  have l1 := lt_of_blk h1
  have l2 := lt_of_blk h2
  obtain ⟨W1, e1⟩ : ∃ W1, w.setCell ⟨b0, 0, none⟩ a = W1 := ⟨_, rfl⟩
  obtain ⟨W2, e2⟩ : ∃ W2, W1.setCell ⟨b1, 0, none⟩ b = W2 := ⟨_, rfl⟩
  have z1 : W1.heap.size = w.heap.size := by rw [← e1]; exact sz _ _ _ _
  have z2 : W2.heap.size = w.heap.size := by rw [← e2, ← z1]; exact sz _ _ _ _
  have k1 : ∀ i, i < w.heap.size → i ≠ b0 → W1.heap[i]? = w.heap[i]? := fun i hi hn => by rw [← e1]; exact key _ _ _ _ i hi hn
  have k2 : ∀ i, i < w.heap.size → i ≠ b1 → W2.heap[i]? = W1.heap[i]? := fun i hi hn => by rw [← e2]; exact key _ _ _ _ i (by rw [z1]; exact hi) hn
  have k3 : ∀ i, i < w.heap.size → i ≠ b2 → (W2.setCell ⟨b2, 0, none⟩ c).heap[i]? = W2.heap[i]? := fun i hi hn => key _ _ _ _ i (by rw [z2]; exact hi) hn
  have q0 : W1.heap[b0]? = some (.cells #[a] t0 (0, 0)) := by rw [← e1]; exact set_blk h0 0 a
  have q1 : W2.heap[b1]? = some (.cells #[b] t1 (0, 0)) := by rw [← e2]; exact set_blk ((k1 b1 l1 d01.symm).trans h1) 0 b
  have q2 : (W2.setCell ⟨b2, 0, none⟩ c).heap[b2]? = some (.cells #[c] t2 (0, 0)) := set_blk ((k2 b2 l2 d12.symm).trans ((k1 b2 l2 d02.symm).trans h2)) 0 c
  rw [e1, e2]
  exact ⟨(k3 b0 l0 d02).trans ((k2 b0 l0 d01).trans q0), (k3 b1 l1 d12).trans q1, q2, fun i hi n0 n1 n2 => (k3 i hi n2).trans ((k2 i hi n1).trans (k1 i hi n0)), (sz _ _ _ _).trans z2⟩
theorem assert_flt (a b : Value) (w : World) : (Instr.typeAssert (.iface 65 (.agg #[a, b])) 20 65 true).run Tryz.prog w = .ok (.tuple #[.agg #[a, b], .bool true]) w := by
  kernel_rfl
set_option maxRecDepth 100000 in
set_option maxHeartbeats 4000000 in
theorem catch_panicking (b0 b1 b2 : Nat) (v0 v1 v2 : Value) (x : Nat × Int) (older : List PanicEntry) (w : World)
    (d01 : b0 ≠ b1) (d02 : b0 ≠ b2) (d12 : b1 ≠ b2) (h0 : w.heap[b0]? = some (.cells #[v0] 22 (0, 0))) (h1 : w.heap[b1]? = some (.cells #[v1] 25 (0, 0))) (h2 : w.heap[b2]? = some (.cells #[v2] 3 (0, 0))) :
    CallsD Tryz.prog 21 #[.pointer (some ⟨b0, 0, none⟩), .pointer (some ⟨b1, 0, none⟩), .pointer (some ⟨b2, 0, none⟩)] (.panicking ({ v := fltV x, recovered := false } :: older)) w fun e u' w' =>
      e = .returned (.tuple #[]) ∧ u' = .panicking ({ v := fltV x, recovered := true } :: older) ∧ w'.heap[b0]? = some (.cells #[.slice none 0 0] 22 (0, 0)) ∧ w'.heap[b1]? = some (.cells #[.int .i64 (x.1 : Int)] 25 (0, 0)) ∧ w'.heap[b2]? = some (.cells #[.int .i64 x.2] 3 (0, 0)) ∧ ∀ B a, Below B a w → B ≤ b0 → B ≤ b1 → B ≤ b2 → Below B a w' := by
  have l0 := hide (lt_of_blk h0)
  refine callsD_of_wpS Tryz.func21 rfl fun c₀ cs hu => ?_
  have a0 : w.cell? ⟨b0, 0, none⟩ = some v0 := cell_of_row w b0 0 _ _ _ h0
  have a1 : w.cell? ⟨b1, 0, none⟩ = some v1 := cell_of_row w b1 0 _ _ _ h1
  have a2 : w.cell? ⟨b2, 0, none⟩ = some v2 := cell_of_row w b2 0 _ _ _ h2
  have f0 : w.frozen? ⟨b0, 0, none⟩ = false := by simp [World.frozen?, h0]
  have f1 : w.frozen? ⟨b1, 0, none⟩ = false := by simp [World.frozen?, h1]
  have f2 : w.frozen? ⟨b2, 0, none⟩ = false := by simp [World.frozen?, h2]
  apply wpS_seq
  apply wpS_region
  simp [wpOpsS, go_sem, recoverD, hu, Tryz.ntmps21, Exit.thenS]
  refine wpS_of_wp ?_
  have et : (#[.pointer (some ⟨b0, 0, none⟩), .pointer (some ⟨b1, 0, none⟩), .pointer (some ⟨b2, 0, none⟩)] ++ ((Array.replicate 18 undef).setIfInBounds 3 (fltV x)).setIfInBounds 0 (fltV x) : Array Value) = #[.pointer (some ⟨b0, 0, none⟩), .pointer (some ⟨b1, 0, none⟩), .pointer (some ⟨b2, 0, none⟩), fltV x, undef, undef, fltV x, undef, undef, undef, undef, undef, undef, undef, undef, undef, undef, undef, undef, undef, undef] := rfl
  rw [et]
  clear et
  unfold fltV
  have hta := fun (w : World) => assert_flt (.int .i64 (x.1 : Int)) (.int .i64 x.2) w
  go_upto_region 5 with (fail)
  obtain ⟨w4, hw4⟩ : ∃ w4, w.alloc (.cells #[.int .i64 (x.1 : Int), .int .i64 x.2] 65) = w4 := ⟨_, rfl⟩
  have hb4 : Below w.heap.size w w4 := by rw [← hw4]; exact (Below.refl _ _).alloc (Nat.le_refl _) _
  have hn4 : w4.heap[w.heap.size]? = some (.cells #[.int .i64 (x.1 : Int), .int .i64 x.2] 65 (0, 0)) := by rw [← hw4]; exact heap_alloc_new _ _
  obtain ⟨g, hg⟩ : ∃ g, w.heap.size = g := ⟨_, rfl⟩
  have k0 := (hb4.block b0 (lt_of_blk h0)).trans h0
  have k1 := (hb4.block b1 (lt_of_blk h1)).trans h1
  have k2 := (hb4.block b2 (lt_of_blk h2)).trans h2
  have n0 : b0 ≠ g := by have := lt_of_blk h0; omega
  have n1 : b1 ≠ g := by have := lt_of_blk h1; omega
  have n2 : b2 ≠ g := by have := lt_of_blk h2; omega
  have m0 := n0.symm
  have m1 := n1.symm
  have m2 := n2.symm
  rw [hw4]
  rw [hg] at hn4 ⊢
  have c0 : w4.cell? ⟨g, 0, none⟩ = some (.int .i64 (x.1 : Int)) := cell_of_row w4 g 0 _ _ _ hn4
  have c1 : w4.cell? ⟨g, 1, none⟩ = some (.int .i64 x.2) := cell_of_row w4 g 1 _ _ _ hn4
  have H0 := hide k0
  have H1 := hide k1
  have H2 := hide k2
  have HB := hide hb4
  have HG := hide hg
  have a0 : w4.cell? ⟨b0, 0, none⟩ = some v0 := cell_of_row w4 b0 0 _ _ _ k0
  have a1 : w4.cell? ⟨b1, 0, none⟩ = some v1 := cell_of_row w4 b1 0 _ _ _ k1
  have a2 : w4.cell? ⟨b2, 0, none⟩ = some v2 := cell_of_row w4 b2 0 _ _ _ k2
  have f0 : w4.frozen? ⟨b0, 0, none⟩ = false := by simp [World.frozen?, k0]
  have f1 : w4.frozen? ⟨b1, 0, none⟩ = false := by simp [World.frozen?, k1]
  have f2 : w4.frozen? ⟨b2, 0, none⟩ = false := by simp [World.frozen?, k2]
  clear hw4 hb4 hn4 k0 k1 k2 hg h0 h1 h2 hta
  go_region
  obtain ⟨r0, r1, r2, r3, r4⟩ := set3 d01 d02 d12 H0.out H1.out H2.out (.slice none 0 0) (.int .i64 (x.1 : Int)) (.int .i64 x.2)
  simp +zetaDelta [bodyPostS, results, Tryz.results21]
  refine ⟨r0, r1, r2, fun B a hB q0 q1 q2 => ?_⟩
  have hl := l0.out
  exact ((((hB.trans (HB.out.mono (by omega))).setCell (p := ⟨b0, 0, none⟩) q0 _).setCell (p := ⟨b1, 0, none⟩) q1 _).setCell (p := ⟨b2, 0, none⟩) q2 _).drew
set_option maxRecDepth 100000 in
set_option maxHeartbeats 4000000 in
theorem catch_idle (a0 a1 a2 : Value) (w : World) : CallsD Tryz.prog 21 #[a0, a1, a2] .returning w fun e u' w' => e = .returned (.tuple #[]) ∧ u' = .returning ∧ w' = w := by
  refine callsD_of_wpS Tryz.func21 rfl fun c₀ cs hu => ?_
  apply wpS_seq
  apply wpS_region
  simp [wpOpsS, go_sem, recoverD, hu, Tryz.ntmps21, Exit.thenS]
  refine wpS_of_wp ?_
  have et : (#[a0, a1, a2] ++ ((Array.replicate 18 undef).setIfInBounds 3 .nilIface).setIfInBounds 0 .nilIface : Array Value) = #[a0, a1, a2, .nilIface, undef, undef, .nilIface, undef, undef, undef, undef, undef, undef, undef, undef, undef, undef, undef, undef, undef, undef] := rfl
  rw [et]
  clear et
  go_wp2_with fail
  cases c₀
  simp_all +zetaDelta [bodyPostS, results, Tryz.results21]
end Go.Proofs.YtoodmhlefaepaaaGreat
