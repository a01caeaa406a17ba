/-
  The iterator over a ring's sides, walked inside the wide fence: what it yields.
-/
import Derived.Test.YtmklnioedeailaaGeoC
import Derived.Test.YtmklnioedeailaaRPlain
import Derived.RangeFuncNested
import Derived.RangeFuncBound
import Derived.RangeFuncCalls
import Derived.RangeFuncLeaves
import Derived.Shelf.Abstract
import Derived.Shelf.RegionOpen
import Derived.OwnWalkIn
import Derived.TacticsInMore
import Derived.LoopNIn
import Derived.LoopIn
import Derived.IntWalk
namespace Go.Proofs.Ytmklnioedeailaa
open Go.RowKit Go.Proofs.PlGeom Go.Proofs.PlRing
attribute [local go_sem] Oper.semAt_some

def encS (x : Sd) : Array Value := #[.int .i64 (x.i : Int), .agg #[.int .i64 x.s.a.x, .int .i64 x.s.a.y, .int .i64 x.s.b.x, .int .i64 x.s.b.y]]
def vp (p : Pt) : Value := .agg #[.int .i64 p.x, .int .i64 p.y]

/-- Points in memory, from a cell on. -/
def PtsO (W : World) (g o : Nat) (r : List Pt) : Prop := ∀ i p, r[i]? = some p → W.cell? ⟨g, o + i * 2, none⟩ = some (.int .i64 p.x) ∧ W.cell? ⟨g, o + i * 2 + 1, none⟩ = some (.int .i64 p.y)
theorem PtsO.below {W W' : World} {g o n₀ : Nat} {r : List Pt} (h : PtsO W g o r) (hg : g < n₀) (hb : Below n₀ W W') : PtsO W' g o r :=
  fun i p hp => ⟨(hb.cell (p := ⟨g, _, none⟩) hg).trans (h i p hp).1, (hb.cell (p := ⟨g, _, none⟩) hg).trans (h i p hp).2⟩

theorem cell_lt {W : World} {b i : Nat} {v : Value} (h : W.cell? ⟨b, i, none⟩ = some v) : b < W.heap.size := by
  obtain ⟨_, h1, _⟩ := cells_of_cell h
  exact (Array.getElem?_eq_some_iff.1 h1).1

/-- A ring's header in a box, and its points. -/
structure Rg (B g o c : Nat) (r : List Pt) (W : World) : Prop where
  box : W.cell? ⟨B, 0, none⟩ = some (.slice (some ⟨g, o, none⟩) r.length c)
  pts : PtsO W g o r
theorem Rg.below {B g o c : Nat} {r : List Pt} {W W' : World} (h : Rg B g o c r W) (hg : g < W.heap.size) (hb : Below W.heap.size W W') : Rg B g o c r W' :=
  ⟨(hb.cell (p := ⟨B, 0, none⟩) (cell_lt h.box)).trans h.box, h.pts.below hg hb⟩
/-- What a round keeps: the ring's header and its points. -/
def Kr (B g : Nat) (W W' : World) : Prop := W.heap.size ≤ W'.heap.size ∧ ∀ b, (b = B ∨ b = g) → ∀ o, W.heap[b]? = some o → o.isCells = true → W'.heap[b]? = some o
theorem Kr.trans {B g : Nat} {X Y Z : World} (h : Kr B g X Y) (k : Kr B g Y Z) : Kr B g X Z := ⟨Nat.le_trans h.1 k.1, fun b hb o ho hc => k.2 b hb o (h.2 b hb o ho hc) hc⟩
theorem Kr.putObj {B g : Nat} (W : World) (l : Nat) (o o' : Obj) (h1 : W.heap[l]? = some o) (h2 : o.isCells = false) : Kr B g W (W.putObj l o') := by
  have hg := grownBy_putObj' W l o'
  refine ⟨hg.size, fun b _ ob hob hc => ?_⟩
  refine (hg.block b (Array.getElem?_eq_some_iff.1 hob).1 (fun e => ?_)).trans hob
  cases e
  rw [h1] at hob
  cases hob
  rw [h2] at hc
  cases hc
theorem Kr.below {B g : Nat} {W W' : World} (h : Below W.heap.size W W') : Kr B g W W' := ⟨h.size, fun b _ _ hob _ => (h.block b (Array.getElem?_eq_some_iff.1 hob).1).trans hob⟩
theorem Kr.set {B g : Nat} (W : World) (b i : Nat) (v : Value) (h1 : b ≠ B) (h2 : b ≠ g) : Kr B g W (W.setCell ⟨b, i, none⟩ v) :=
  ⟨by simp, fun b' hb' _ hob _ => (Below.heap_setCell W ⟨b, i, none⟩ v b' (by rcases hb' with e | e <;> rw [e] <;> (intro e'; first | exact h1 e'.symm | exact h2 e'.symm))).trans hob⟩
theorem Rg.kept {B g o c : Nat} {r : List Pt} {W W' : World} (h : Rg B g o c r W) (k : Kr B g W W') : Rg B g o c r W' := by
  have key : ∀ b i v, (b = B ∨ b = g) → W.cell? ⟨b, i, none⟩ = some v → W'.cell? ⟨b, i, none⟩ = some v := by
    intro b i v hb hv
    obtain ⟨ob, h1, h2⟩ := cells_of_cell hv
    have h3 := k.2 b hb ob h1 h2
    exact (World.cell?_of_block (a := ⟨b, i, none⟩) (h3.trans h1.symm)).trans hv
  exact ⟨key _ _ _ (.inl rfl) h.box, fun i p hp => ⟨key _ _ _ (.inr rfl) (h.pts i p hp).1, key _ _ _ (.inr rfl) (h.pts i p hp).2⟩⟩

/-- A piece of code that ends as it goes on, and no other way. -/
def NormalPost (R : Act → World → Prop) : Exit → Act → World → Prop
  | .normal, a, w => R a w
  | _, _, _ => False
theorem NormalPost.imp {R : Act → World → Prop} {Q : Exit → Act → World → Prop} (h : ∀ a w, R a w → Q .normal a w) : ∀ e a w, NormalPost R e a w → Q e a w := fun e a w hh => by
  cases e <;> first | exact h a w hh | exact (hh : False).elim

set_option maxRecDepth 100000 in
set_option maxHeartbeats 4000000 in
theorem sides_in (n : Nat) (hn : 1 ≤ n) (l B g o c : Nat) (r : List Pt) (hr : Fine r) (hr1 : 1 ≤ r.length) (J Jx : List Sd → World → Prop) (W : World) (hJ : AbidesFrom W.heap.size J)
    (hY : ∀ pre x W1, J pre W1 → pre.length < r.length → YieldAt Fence.wide (n - 1) Try.prog l (encS x) W1 fun e W' =>
      (e = .returned (.bool true) ∧ J (pre ++ [x]) W' ∧ Kr B g W1 W') ∨ (e = .returned (.bool false) ∧ Jx (pre ++ [x]) W'))
    (hI : Rg B g o c r W) (h0 : J [] W) :
    CallsIn Fence.wide n Try.prog 45 #[.func (.yield l) #[] #[], .pointer (some ⟨B, 0, none⟩)] W fun e W' => (∃ v, e = .returned v) ∧
      ((∃ xs, xs.map Sd.v = sidesL r ∧ J xs W') ∨ (∃ pre, pre.map Sd.v <+: sidesL r ∧ Jx pre W')) := by
  have HY := hide hY
  have HJ := hide hJ
  have HR := hide hr
  have hlen := hr.few
  clear hY hJ hr
  have hbox := hI.box
  refine callsIn_of_wp Try.func45 rfl trivial ?_ rfl
  simp only [Try.ntmps45, List.size_toArray, List.length_cons, List.length_nil, Nat.reduceAdd, Nat.reduceSub, Array.replicate_succ, Array.replicate_zero, List.push_toArray, List.append_toArray, List.nil_append, List.cons_append]
  gi_wp2
  clear hbox
  gi_loopw [7] (fun i wr => ∃ (k : Nat) (pre : List Sd), k ≤ r.length ∧ i = .int .i64 k ∧ Hid (pre.map Sd.v = upto r k) ∧ Hid (Rg B g o c r wr) ∧ Hid (J pre wr) ∧ W.heap.size ≤ wr.heap.size) (fun i _ => r.length - (intOf i).toNat)
  case atStart => exact ⟨0, [], Nat.zero_le _, rfl, rfl, hI, h0, Nat.le_refl _⟩
  case round =>
    clear hI h0
    obtain ⟨k, pre, hk, rfl, hpre, hrg, hj, hsz⟩ := hrel
    by_cases hlt : k < r.length
    · obtain ⟨m, hm⟩ : ∃ m, m = (k + 1) % r.length := ⟨_, rfl⟩
      have hml : m < r.length := by rw [hm]; exact Nat.mod_lt _ (by omega)
      have hside : sideAt r k = ⟨at0 r k, at0 r m⟩ := by unfold sideAt; rw [hm]
      have fa := HR.out.at0 k hlt
      have fb := HR.out.at0 m hml
      have e1 : ((k : Int) + 1) % (r.length : Int) = (m : Int) := by rw [hm]; push_cast; rfl
      have e2 : ((k : Int) + 1).tmod (r.length : Int) = (m : Int) := by rw [Int.tmod_eq_emod_of_nonneg (by omega)]; exact e1
      have hbox := hrg.out.box
      obtain ⟨c1, c2⟩ := hrg.out.pts k _ (at0_some r k hlt)
      obtain ⟨c3, c4⟩ := hrg.out.pts m _ (at0_some r m hml)
      have HSD := hide hside
      clear hside hm
      generalize at0 r k = p at *
      generalize at0 r m = q at *
      obtain ⟨x, hx1, hx2⟩ : ∃ x : Sd, x.i = k ∧ x.s = ⟨p, q⟩ := ⟨⟨k, ⟨p, q⟩, by omega, fa, fb⟩, rfl, rfl⟩
      have hnew : upto r (k + 1) = upto r k ++ [x.v] := by rw [upto_succ, HSD.out]; unfold Sd.v; rw [hx1, hx2]
      have HNEW := hide hnew
      have hplen : pre.length < r.length := by
        have := congrArg List.length hpre.out
        rw [List.length_map, upto_len] at this
        omega
      have hj1 : J pre (wr.alloc (.cells #[.int .i64 p.x, .int .i64 p.y] 24)).drew := HJ.out _ wr _ none hj.out ⟨rfl, rfl, rfl, by simp, fun k hk _ => (World.grownBy_alloc wr (.cells #[.int .i64 p.x, .int .i64 p.y] 24) none).block k hk (by simp)⟩ (fun r e => by cases e)
      obtain ⟨fn, tmps, assign, body, hy, hR⟩ := HY.out pre x _ hj1 hplen
      unfold encS at hy
      rw [hx1, hx2] at hy
      simp only at hy
      have HRR := hide (hR.mono (R' := fun e W' => ∃ b, e = .returned (.bool b) ∧ Hid ((b = true ∧ J (pre ++ [x]) W' ∧ Kr B g (wr.alloc (.cells #[.int .i64 p.x, .int .i64 p.y] 24)).drew W') ∨ (b = false ∧ Jx (pre ++ [x]) W'))) (by
        rintro e W3 (⟨rfl, h2, h3⟩ | ⟨rfl, h2⟩)
        · exact ⟨true, rfl, .inl ⟨rfl, h2, h3⟩⟩
        · exact ⟨false, rfl, .inr ⟨rfl, h2⟩⟩))
      have hmx : Try.prog.follows .mixedOrders = true := by kernel_rfl
      have hBs : B < wr.heap.size := cell_lt hbox
      have hgs : g < wr.heap.size := cell_lt c1
      have kz : (1 : Int) ≤ r.length := by omega
      have kz2 : ¬ ((r.length : Int) = 0) := by omega
      have kz3 : ¬ (r = []) := by rintro rfl; simp at hlt
      have kz4 : ¬ (r.length = 0) := by omega
      have kw : IntKind.i64.wrap ((k : Int) + 1) = (k : Int) + 1 := IntWalk.i64_in _ (by omega)
      have k0 : (0 : Int) ≤ k := by omega
      have k1 : (k : Int) < r.length := by omega
      have m0 : (0 : Int) ≤ m := by omega
      have m1 : (m : Int) < r.length := by omega
      have ky : ((r.length : Int) == 0) = false := by rw [beq_eq_false_iff_ne]; omega
      clear hR hnew hx1 hx2 hj1 fa fb hplen
      gi_wp2
      refine wpIn_mono (Q := NormalPost fun a2 w2 => ∃ b, a2 = { tmps := #[.func (.yield l) #[] #[], .pointer (some ⟨B, 0, none⟩), undef, .int .i64 k, .pointer (some ⟨wr.heap.size, 0, none⟩), .slice (some ⟨g, o, none⟩) r.length c, .int .i64 r.length, .int .i64 k, .bool true, .int .i64 k, .pointer (some ⟨g, o + k * 2, none⟩), .agg #[.int .i64 p.x, .int .i64 p.y], .func (.yield l) #[] #[], .int .i64 k, .agg #[.int .i64 p.x, .int .i64 p.y], .slice (some ⟨g, o, none⟩) r.length c, .int .i64 k, .int .i64 ((k : Int) + 1), .slice (some ⟨g, o, none⟩) r.length c, .int .i64 r.length, .int .i64 m, .pointer (some ⟨g, o + m * 2, none⟩), .agg #[.int .i64 q.x, .int .i64 q.y], .agg #[.int .i64 p.x, .int .i64 p.y, .int .i64 q.x, .int .i64 q.y], .bool b, .bool (!b), u26], defers := [] } ∧
        Hid ((b = true ∧ J (pre ++ [x]) w2 ∧ Kr B g (wr.alloc (.cells #[.int .i64 p.x, .int .i64 p.y] 24)).drew w2) ∨ (b = false ∧ Jx (pre ++ [x]) w2))) ?_ ?_
      · gi_region_with_o (refine HRR.out.mono ?_; rintro e W3 ⟨b, rfl, hb⟩)
        all_goals exact ⟨b, rfl, hb⟩
      · clear HRR hy e1 e2 kw c1 c2 c3 c4 hbox
        refine NormalPost.imp ?_
        rintro _ W3 ⟨b, rfl, hb⟩
        cases b with
        | true =>
          obtain ⟨_, h1, h2⟩ := hb.out.resolve_right (fun h => by cases h.1)
          have HJ1 := hide h1
          have hb3 : Kr B g wr W3 := Kr.trans (Kr.below (((Below.refl _ wr).alloc (Nat.le_refl _) _).drew)) h2
          have HRG := hide (hrg.out.kept hb3)
          have hsz3 := hb3.1
          clear hb h1 h2 hb3
          gi_wp2
          go_roundw
          case rel => exact ⟨k + 1, pre ++ [x], by omega, by go_num, (by show _ = _; rw [List.map_append, hpre.out, HNEW.out]; rfl), HRG, HJ1, by omega⟩
          case measure => simp [intOf]; omega
        | false =>
          have h1 := (hb.out.resolve_left (fun h => by cases h.1)).2
          have HJ1 := hide h1
          clear hb h1
          gi_wp2
          refine bodyPost_ret (results_none rfl _ _ _) rfl ?_
          refine ⟨⟨_, rfl⟩, .inr ⟨pre ++ [x], ?_, HJ1.out⟩⟩
          rw [List.map_append, hpre.out, List.map_cons, List.map_nil, ← HNEW.out]
          exact upto_pre r (k + 1) hlt
    · obtain rfl : k = r.length := by omega
      gi_wp2
      go_end0
      exact ⟨⟨_, rfl⟩, .inl ⟨pre, hpre.out.trans (upto_all r), hj.out⟩⟩

theorem sides_stops (n : Nat) (hn : 1 ≤ n) (B g o c : Nat) (r : List Pt) (hr : Fine r) (hr1 : 1 ≤ r.length) (w : World) (hI : Rg B g o c r w) :
    SeqStopsK Fence.wide n Try.prog 45 #[.pointer (some ⟨B, 0, none⟩)] encS (Kr B g) (fun xs => xs.map Sd.v = sidesL r) (fun pre => pre.map Sd.v <+: sidesL r) r.length w :=
  fun l J Jx W hW hJ _ hY h0 => sides_in n hn l B g o c r hr hr1 J Jx W hJ hY (hI.kept (Kr.below hW)) h0
end Go.Proofs.Ytmklnioedeailaa
