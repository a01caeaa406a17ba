/-
  Twice of a ring, walked.
-/
import Derived.Test.YtmklnioedeailaaRngB
namespace Go.Proofs.Ytmklnioedeailaa
open Go.RowKit Go.Proofs.PlGeom Go.Proofs.PlRing
attribute [local go_sem] Oper.semAt_some

theorem keepsOthers_below {W W' : World} (h : Below W.heap.size W W') : KeepsOthers W W' := ⟨h.size, fun k _ hk _ => (h.block k (Array.getElem?_eq_some_iff.1 hk).1).trans hk⟩
/-- A box of one segment. -/
def SgBox (W : World) (B : Nat) (s : Sg) : Prop := W.heap[B]? = some (.cells #[.int .i64 s.a.x, .int .i64 s.a.y, .int .i64 s.b.x, .int .i64 s.b.y] 36 (0, 0))
theorem blk_own {X Y : World} {row : Option Nat} {B : Nat} {cs : Array Value} {t : TypeId} {f : Nat × Nat} (h : X.heap[B]? = some (.cells cs t f)) (hg : X.grownBy Y row) (hr : ∀ r, row = some r → ∃ o : Obj, X.heap[r]? = some o ∧ o.isCells = false) : Y.heap[B]? = some (.cells cs t f) :=
  (hg.block B (Array.getElem?_eq_some_iff.1 h).1 (fun e => by
    obtain ⟨o, ho, hc⟩ := hr B e.symm
    rw [h] at ho
    cases ho
    cases hc)).trans h

/-- The sum so far in its box, and all that lay there as it was. -/
structure TwI (w : World) (b0 n0 : Nat) (pre : List Sd) (W : World) : Prop where
  size : n0 ≤ W.heap.size
  box : Boxed W b0 3 (.int .i64 (sumT (pre.map Sd.v)))
  below : Below w.heap.size w W
theorem twI_own (w : World) (b0 n0 B : Nat) (hB : w.heap.size ≤ B) : OwnFrom B (TwI w b0 n0) := fun _ X Y row h hg hr =>
  ⟨Nat.le_trans h.size hg.size, blk_own h.box hg (fun r e => (hr r e).2), ownFrom_below (β := Unit) (Nat.le_refl _) hB () X Y row h.below hg hr⟩

set_option maxRecDepth 100000 in
set_option maxHeartbeats 4000000 in
theorem twice_any (r : List Pt) (v : Value) (w : World) (hv : SlP w v r) (hl : r.length ≤ 100000) :
    Calls Try.prog 12 #[v] w fun e w' => e = .returned (.int .i64 (twice r)) ∧ Below w.heap.size w w' := by
  have HG := hide (regular_any r v w hv hl)
  cases hreg : regB r with
  | false =>
    have ht : twice r = 0 := by unfold twice; rw [hreg]; rfl
    rw [ht]
    rw [hreg] at HG
    obtain ⟨A, c, rfl, _⟩ := hv
    clear hreg ht
    go_enter Try.func12, Try.ntmps12
    go_wp2_with fail
    refine (HG.out).mono ?_
    rintro _ w1 ⟨rfl, hb⟩
    go_wp2_with fail
    go_ret
    exact ⟨rfl, hb⟩
  | true =>
    obtain ⟨hfine, h3⟩ := regB_fine r hreg
    have ht : twice r = sumT (sidesL r) := by unfold twice; rw [hreg]; rfl
    rw [ht]
    rw [hreg] at HG
    obtain ⟨A, c, rfl, hA⟩ := hv
    obtain ⟨g, o, rfl, hg, hp⟩ := hA.resolve_left (by rintro rfl; simp at h3)
    have HP := hide hp
    have HF := hide hfine
    clear hreg ht hA hp hfine
    refine (callsIn_wide (n := 10)).1 ?_
    refine callsIn_of_wp_marks Try.func12 rfl trivial ?_ rfl
    simp only [Try.ntmps12, List.size_toArray, List.length_cons, List.length_nil, Nat.reduceAdd, Nat.reduceSub, Array.replicate_succ, Array.replicate_zero, List.push_toArray, List.append_toArray, List.nil_append, List.cons_append]
    have hf : Fence.wide.fn 26 := trivial
    have hf2 : Fence.wide.fn 27 := trivial
    gi_wp2_with (first
      | (gi_at_call 26; refine (callsIn_wide.2 HG.out).mono ?_; rintro e w1 ⟨rfl, hb1⟩)
      | (gi_at_call 27; refine (callsIn_wide.2 (sides_any _ _ _ _ rfl _)).mono ?_; rintro e w2 ⟨rfl, rfl⟩))
    have bx0 := Boxed.new w1 3 (.int .i64 0)
    have hp1 : PtsO w1 g o r := HP.out.below hg hb1
    have hg1 : g < w1.heap.size := Nat.lt_of_lt_of_le hg hb1.size
    have hB1 := hb1.size
    obtain ⟨W0, hW0⟩ : ∃ W0, (w1.alloc (.cells #[.int .i64 0] 3)).alloc (.cells #[.slice (some ⟨g, o, none⟩) r.length c] 22) = W0 := ⟨_, rfl⟩
    have hsz : W0.heap.size = w1.heap.size + 2 := by rw [← hW0]; simp
    have hb0 : Below w.heap.size w W0 := by rw [← hW0]; exact (hb1.alloc hB1 _).alloc (by simp; omega) _
    have bx : Boxed W0 w1.heap.size 3 (.int .i64 0) := by rw [← hW0]; exact bx0.alloc _
    have hbx : W0.heap[w1.heap.size + 1]? = some (.cells #[.slice (some ⟨g, o, none⟩) r.length c] 22 (0, 0)) := by rw [← hW0]; exact blkN _ _ _ (by simp)
    have hrg : Rg (w1.heap.size + 1) g o c r W0 := ⟨cell_of_row _ _ 0 _ _ _ hbx, by
      rw [← hW0]; exact hp1.below hg1 (((Below.refl _ _).alloc (Nat.le_refl _) _).alloc (by simp) _)⟩
    rw [hW0]
    clear hW0 bx0 hp1 hbx hb1 HG hf hf2
    refine wpIn_rangeFunc_ownH rfl (by omega) (gf := 45) (lb := #[.pointer (some ⟨w1.heap.size + 1, 0, none⟩)]) rfl trivial (enters_of Try.func45 (by kernel_rfl) rfl)
      (sides_stops 9 (by omega) (w1.heap.size + 1) g o c r HF.out (by omega) W0 hrg) Kr.trans (fun W l o o' _ h1 h2 _ => Kr.putObj W l o o' h1 h2) (Below.refl _ _) (fun _ => rfl)
      (TwI w w1.heap.size W0.heap.size) (fun _ _ _ => False) (twI_own w _ _ _ (by omega)) (fun _ _ _ _ _ h _ _ => h) ⟨Nat.le_refl _, bx, hb0⟩
      (fun x a' W => ∃ Bx, W0.heap.size ≤ Bx ∧ SgBox W Bx x.s ∧ a' = { tmps := #[.slice (some ⟨g, o, none⟩) r.length c, undef, .int .i64 0, .pointer (some ⟨w1.heap.size, 0, none⟩), undef, .pointer (some ⟨Bx, 0, none⟩), .slice (some ⟨g, o, none⟩) r.length c, .bool true, .bool false, .slice (some ⟨g, o, none⟩) r.length c, .func (.func 45) #[] #[.pointer (some ⟨w1.heap.size + 1, 0, none⟩)], .int .i64 x.i, .agg #[.int .i64 x.s.a.x, .int .i64 x.s.a.y, .int .i64 x.s.b.x, .int .i64 x.s.b.y], undef, undef, undef, undef, undef, undef, undef, undef, undef, undef, undef, undef, undef, undef, undef, undef, undef, undef], defers := [] })
      (fun x a' _ X Y row hs hg hr => by
        obtain ⟨Bx, e1, e2, e3⟩ := hs
        exact ⟨Bx, e1, blk_own e2 hg (fun r e => (hr r e).2), e3⟩)
      ?assign ?body ?done ?stop
    case assign =>
      rintro l pre x W K h hK
      unfold encS
      gi_wp2
      exact hK _ _ ((KeepsOthers.alloc _ _).from _) (Kr.below ((Below.refl _ _).alloc (Nat.le_refl _) _)) ⟨by have := h.size; simp; omega, h.box.alloc _, h.below.alloc h.below.size _⟩
        ⟨W.heap.size, h.size, blkN _ _ _ rfl, rfl⟩
    case body =>
      rintro l pre x a' W hl ⟨rr, hr⟩ h ⟨Bx, hBx, bX, rfl⟩ hlt
      obtain ⟨⟨c1, c2, c3, c4⟩, _⟩ := blk4 bX
      have c0 : W.cell? ⟨w1.heap.size, 0, none⟩ = _ := h.box.cell
      have f0 : W.frozen? ⟨w1.heap.size, 0, none⟩ = false := h.box.frozen
      obtain ⟨s1, s2⟩ := sumT_bd pre
      obtain ⟨t1, t2⟩ := term_bd x
      obtain ⟨⟨a1, a2, a3, a4⟩, ⟨b1, b2, b3, b4⟩⟩ := And.intro x.ha x.hb
      have few := HF.out.few
      have hsum : sumT ((pre ++ [x]).map Sd.v) = sumT (pre.map Sd.v) + (x.s.a.x + x.s.b.x) * (x.s.b.y - x.s.a.y) := by
        rw [List.map_append, sumT_app]; simp [sumT, term, Sd.v]
      have tt : (x.s.a.x + x.s.b.x) * (x.s.b.y - x.s.a.y) = term x.v := rfl
      rw [← tt] at t1 t2
      have HS := hide hsum
      have HH := hide h
      clear h hsum tt
      generalize sumT (pre.map Sd.v) = T at *
      gi_wp2
      refine ⟨(KeepsOthers.setCell _ _ _).from _, Kr.set _ _ _ _ (by omega) (by omega), ⟨by have := HH.out.size; simp; omega, ?_, HH.out.below.setCell (p := ⟨w1.heap.size, 0, none⟩) hB1 _⟩⟩
      rw [HS.out]
      exact HH.out.box.set _
    case done =>
      rintro D xs W hD hS h hK
      have c0 : W.cell? ⟨w1.heap.size, 0, none⟩ = _ := h.box.cell
      rw [hS] at c0
      have HH := hide h
      have HK := hide hK
      clear h hK
      gi_wp2
      refine ⟨by simp, .inl ⟨_, _, rfl, run_takeDeferred HK.out, ?_⟩⟩
      exact ⟨_, results_tmp rfl _ _ _, rfl, HH.out.below.trans (belowK_b (w := w) (Nat.le_refl _) W D _ _ (by omega) HK.out rfl rfl)⟩
    case stop =>
      rintro D c pre W _ _ h
      exact h.elim
end Go.Proofs.Ytmklnioedeailaa
