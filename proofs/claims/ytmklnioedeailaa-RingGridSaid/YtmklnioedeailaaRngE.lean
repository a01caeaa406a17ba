/-
  Which rings are simple, walked: a loop over an iterator within another.
-/
import Derived.Test.YtmklnioedeailaaRngD
import Derived.Test.YtmklnioedeailaaRPlain4
import Derived.Test.YtmklnioedeailaaGeoG
namespace Go.Proofs.Ytmklnioedeailaa
open Go.RowKit Go.Proofs.PlGeom Go.Proofs.PlRing
attribute [local go_sem] Oper.semAt_some

theorem krOwn (B g n0 : Nat) (W : World) : OwnFrom n0 (fun (_ : Unit) W' => Kr B g W W') := fun _ _ _ _ h hg hr => by
  refine ⟨Nat.le_trans h.1 hg.size, fun b hb ob hob hc => ?_⟩
  have hx := h.2 b hb ob hob hc
  refine (hg.block b (Array.getElem?_eq_some_iff.1 hx).1 (fun e => ?_)).trans hx
  obtain ⟨_, o, ho, hco⟩ := hr b e.symm
  rw [hx] at ho
  cases ho
  rw [hc] at hco
  cases hco

/-- The boxes of Simple between two rounds of the outer loop. -/
structure SiB (w : World) (B3 g o c : Nat) (r : List Pt) (n0 : Nat) (W : World) : Prop where
  size : n0 ≤ W.heap.size
  rb : W.heap[w.heap.size]? = some (.cells #[.slice (some ⟨g, o, none⟩) r.length c] 22 (0, 0))
  res : Boxed W (w.heap.size + 1) 4 (.bool false)
  nb : Boxed W B3 3 (.int .i64 r.length)
  below : Below w.heap.size w W
theorem SiB.own {w : World} {B3 g o c : Nat} {r : List Pt} {n0 B : Nat} (hB : w.heap.size ≤ B) : OwnFrom B (fun (_ : Unit) W => SiB w B3 g o c r n0 W) := fun _ X Y row h hg hr =>
  ⟨Nat.le_trans h.size hg.size, blk_own h.rb hg (fun r e => (hr r e).2), blk_own h.res hg (fun r e => (hr r e).2), blk_own h.nb hg (fun r e => (hr r e).2), ownFrom_below (β := Unit) (Nat.le_refl _) hB () X Y row h.below hg hr⟩
theorem SiB.lift {w : World} {B3 g o c : Nat} {r : List Pt} {n0 : Nat} {W W' : World} (h : SiB w B3 g o c r n0 W) (hb : Below W.heap.size W W') : SiB w B3 g o c r n0 W' :=
  ⟨Nat.le_trans h.size hb.size, blkB hb h.rb, blkB hb h.res, blkB hb h.nb, bto h.below hb⟩
theorem SiB.alloc {w : World} {B3 g o c : Nat} {r : List Pt} {n0 : Nat} {W : World} (h : SiB w B3 g o c r n0 W) (x : Obj) : SiB w B3 g o c r n0 (W.alloc x) :=
  h.lift ((Below.refl _ _).alloc (Nat.le_refl _) _)
/-- The two that the outer loop's round lays. -/
structure SiR (W : World) (Bi Bs : Nat) (x : Sd) : Prop where
  i : Boxed W Bi 3 (.int .i64 (x.i : Int))
  s : SgBox W Bs x.s
theorem SiR.own {Bi Bs : Nat} {x : Sd} {B : Nat} : OwnFrom B (fun (_ : Unit) W => SiR W Bi Bs x) := fun _ _ _ _ h hg hr =>
  ⟨blk_own h.i hg (fun r e => (hr r e).2), blk_own h.s hg (fun r e => (hr r e).2)⟩
theorem SiR.lift {Bi Bs : Nat} {x : Sd} {W W' : World} (h : SiR W Bi Bs x) (hb : Below W.heap.size W W') : SiR W' Bi Bs x := ⟨blkB hb h.i, blkB hb h.s⟩
/-- What an inner round knows. -/
structure SiI (w W : World) (B3 B4 g o c : Nat) (r : List Pt) (n0 Bi Bs : Nat) (x : Sd) (W' : World) : Prop where
  b : SiB w B3 g o c r n0 W'
  rr : SiR W' Bi Bs x
  kr : Kr B4 g W W'
  kf : KeepsFrom n0 W W'
theorem SiI.own {w W : World} {B3 B4 g o c : Nat} {r : List Pt} {n0 Bi Bs : Nat} {x : Sd} {B : Nat} (hB : w.heap.size ≤ B) (hW : W.heap.size ≤ B) : OwnFrom B (fun (_ : Unit) W' => SiI w W B3 B4 g o c r n0 Bi Bs x W') := fun _ X Y row h hg hr =>
  ⟨SiB.own hB () X Y row h.b hg hr, SiR.own () X Y row h.rr hg hr, krOwn B4 g B W () X Y row h.kr hg hr, ownFrom_keepsFrom (β := Unit) hW () X Y row h.kf hg hr⟩
theorem SiI.lift {w W : World} {B3 B4 g o c : Nat} {r : List Pt} {n0 Bi Bs : Nat} {x : Sd} {X Y : World} (h : SiI w W B3 B4 g o c r n0 Bi Bs x X) (hb : Below X.heap.size X Y) : SiI w W B3 B4 g o c r n0 Bi Bs x Y :=
  ⟨h.b.lift hb, h.rr.lift hb, h.kr.trans (Kr.below hb), h.kf.trans ((keepsOthers_below hb).from _)⟩
theorem SiI.set {w W : World} {B3 B4 g o c : Nat} {r : List Pt} {n0 Bi Bs : Nat} {x : Sd} {X : World} (h : SiI w W B3 B4 g o c r n0 Bi Bs x X) (h3 : w.heap.size + 1 < B3) (h4 : w.heap.size + 1 < B4) (hg : g < w.heap.size) (hi : w.heap.size + 1 < Bi) (hs : w.heap.size + 1 < Bs) :
    SiI w W B3 B4 g o c r n0 Bi Bs x (X.setCell ⟨w.heap.size + 1, 0, none⟩ (.bool false)) :=
  ⟨⟨by have := h.b.size; simp; omega, blkS _ _ h.b.rb (by omega), Boxed.set _ h.b.res, blkS _ _ h.b.nb (by omega), h.b.below.setCell (by simp) _⟩, ⟨blkS _ _ h.rr.i (by omega), blkS _ _ h.rr.s (by omega)⟩,
    h.kr.trans (Kr.set _ _ _ _ (by omega) (by omega)), h.kf.trans ((KeepsOthers.setCell _ _ _).from _)⟩
/-- How an inner round leaves. -/
def SiX (w W : World) (B3 B4 g o c : Nat) (r : List Pt) (n0 Bi Bs : Nat) (x : Sd) (cd : Code) (pre : List Sd) (W' : World) : Prop :=
  (cd = .ret ∧ rowB r.length x.v (pre.map Sd.v) = false ∨ cd = .exit 2 ∧ rowB r.length x.v (pre.map Sd.v) = true ∧ ∃ y ∈ pre, x.i ≤ y.i) ∧ SiI w W B3 B4 g o c r n0 Bi Bs x W'

/-- Boxes of the ring and of the answer, where the call begins. -/
theorem si_start (v : Value) (w : World) : ∃ wa, (w.alloc (.cells #[v] 22)).alloc (.cells #[.bool false] 4) = wa ∧ wa.heap.size = w.heap.size + 2 ∧ Below w.heap.size w wa ∧ Below w.heap.size w wa ∧
    wa.heap[w.heap.size]? = some (.cells #[v] 22 (0, 0)) ∧ Boxed wa (w.heap.size + 1) 4 (.bool false) := by
  refine ⟨_, rfl, by simp, ((Below.refl _ w).alloc (Nat.le_refl _) _).alloc (by simp) _, ((Below.refl _ w).alloc (Nat.le_refl _) _).alloc (by simp) _, blkO _ (blkN _ _ _ rfl), blkN _ _ _ (by simp)⟩

set_option maxHeartbeats 2000000 in
theorem simple_no (r : List Pt) (v : Value) (w : World) (hv : SlP w v r) (hl : r.length ≤ 100000) (hreg : regB r = false) :
    Calls Try.prog 14 #[v] w fun e w' => e = .returned (.bool (simple r)) ∧ Below w.heap.size w w' := by
  have ht : simple r = false := by unfold simple; rw [hreg]; rfl
  rw [ht]
  obtain ⟨wa, hwa, hsz, ba, ba2, a1, a2⟩ := si_start v w
  have HG := hide (regular_any r v wa (hv.below ba) hl)
  rw [hreg] at HG
  obtain ⟨A, c, rfl, _⟩ := hv
  have d1 := cell_of_row _ _ 0 _ _ _ a1
  clear hreg ht
  go_enter Try.func14, Try.ntmps14
  go_wp2_with fail
  refine (HG.out).mono ?_
  rintro _ w1 ⟨rfl, hb⟩
  have HW := hide hwa
  clear hwa
  have b2 : Boxed w1 (w.heap.size + 1) 4 (.bool false) := blkB hb a2
  have d2 := b2.cell
  have d3 := b2.frozen
  have hbel := ((ba.trans (hb.mono (by omega))).setCell (p := ⟨w.heap.size + 1, 0, none⟩) (by simp) (.bool false))
  have c5 := (b2.set (.bool false)).cell
  go_wp2_with fail
  refine bodyPost_ret (v := .bool false) ?_ rfl ⟨rfl, hbel⟩
  simp [results, Try.f14, go_sem, c5]

set_option maxRecDepth 100000 in
set_option maxHeartbeats 8000000 in
theorem simple_yes (r : List Pt) (v : Value) (w : World) (hv : SlP w v r) (hl : r.length ≤ 100000) (hreg : regB r = true) :
    Calls Try.prog 14 #[v] w fun e w' => e = .returned (.bool (simple r)) ∧ Below w.heap.size w w' := by
  obtain ⟨hfine, h3⟩ := regB_fine r hreg
  have ht : simple r = allB r.length (sidesL r) (sidesL r) := by unfold simple; rw [hreg]; rfl
  rw [ht]
  obtain ⟨wa, hwa, hsz, ba, ba2, a1, a2⟩ := si_start v w
  have HG := hide (regular_any r v wa (hv.below ba) hl)
  rw [hreg] at HG
  have hvv := hv
  obtain ⟨A, c, rfl, hA⟩ := hv
  obtain ⟨g, o, rfl, hg, hp⟩ := hA.resolve_left (by rintro rfl; simp at h3)
  have HP := hide hp
  have HF := hide hfine
  have d0 := cell_of_row _ _ 0 _ _ _ a1
  clear hreg ht hA hp hfine hvv
  refine (callsIn_wide (n := 20)).1 ?_
  refine callsIn_of_wp_marks Try.func14 rfl trivial ?_ rfl
  simp only [Try.ntmps14, List.size_toArray, List.length_cons, List.length_nil, Nat.reduceAdd, Nat.reduceSub, Array.replicate_succ, Array.replicate_zero, List.push_toArray, List.append_toArray, List.nil_append, List.cons_append]
  have hf : Fence.wide.fn 26 := trivial
  have hf2 : Fence.wide.fn 27 := trivial
  gi_wp2_with (first
    | (gi_at_call 26; refine (callsIn_wide.2 HG.out).mono ?_; rintro e w1 ⟨rfl, hb1⟩; have b1 := blkB hb1 a1; have b2 : Boxed w1 (w.heap.size + 1) 4 (.bool false) := blkB hb1 a2; have d1 := cell_of_row _ _ 0 _ _ _ b1; have d4 := cell_of_row _ _ 0 _ _ _ (blkO (.cells #[.int .i64 r.length] 3) b1); have d2 := b2.cell; have d3 := b2.frozen; clear d0)
    | (gi_at_call 27; refine (callsIn_wide.2 (sides_any _ _ _ _ rfl _)).mono ?_; rintro e w2 ⟨rfl, rfl⟩))
  have HWA := hide hwa
  clear hwa HG
  have hsz1 := hb1.size
  have few := HF.out.few
  obtain ⟨W0, hW0⟩ : ∃ W0, (w1.alloc (.cells #[.int .i64 r.length] 3)).alloc (.cells #[.slice (some ⟨g, o, none⟩) r.length c] 22) = W0 := ⟨_, rfl⟩
  have hsz0 : W0.heap.size = w1.heap.size + 2 := by rw [← hW0]; simp
  have q1 : SiB w w1.heap.size g o c r W0.heap.size W0 := by
    rw [← hW0]
    refine ⟨Nat.le_refl _, blkO _ (blkO _ b1), (b2.alloc _).alloc _, ?_, ((ba.trans (hb1.mono (by omega))).alloc (by omega) _).alloc (by simp; omega) _⟩
    exact (Boxed.new w1 3 (.int .i64 r.length)).alloc _
  have q4 : W0.heap[w1.heap.size + 1]? = some (.cells #[.slice (some ⟨g, o, none⟩) r.length c] 22 (0, 0)) := by rw [← hW0]; exact blkN _ _ _ (by simp)
  have hrg : Rg (w1.heap.size + 1) g o c r W0 := ⟨cell_of_row _ _ 0 _ _ _ q4, HP.out.below hg q1.below⟩
  rw [hW0]
  clear hW0 q4 hf b1 b2 d1 d4 d2 d3 a1 a2 ba ba2 hb1
  refine wpIn_rangeFunc_ownH rfl (by omega) (gf := 45) (lb := #[.pointer (some ⟨w1.heap.size + 1, 0, none⟩)]) rfl trivial (enters_of Try.func45 (by kernel_rfl) rfl)
    (sides_stops 19 (by omega) (w1.heap.size + 1) g o c r HF.out (by omega) W0 hrg) Kr.trans (fun W l o o' _ h1 h2 _ => Kr.putObj W l o o' h1 h2) (Below.refl _ _) (fun _ => rfl)
    (fun pre W => allB r.length (sidesL r) (pre.map Sd.v) = true ∧ SiB w w1.heap.size g o c r W0.heap.size W)
    (fun cd pre W => (cd = .ret ∧ allB r.length (sidesL r) (pre.map Sd.v) = false) ∧ SiB w w1.heap.size g o c r W0.heap.size W)
    (OwnFrom.and (ownFrom_pure _ _) (fun _ => SiB.own (by omega) ())) (fun _ => OwnFrom.and (ownFrom_pure _ _) (fun _ => SiB.own (by omega) ())) ⟨rfl, q1⟩
    (fun x a' W => ∃ Bi Bs, (W0.heap.size ≤ Bi ∧ W0.heap.size ≤ Bs) ∧ SiR W Bi Bs x ∧ a' = { tmps := #[.slice (some ⟨g, o, none⟩) r.length c, .pointer (some ⟨w.heap.size, 0, none⟩), .pointer (some ⟨w.heap.size + 1, 0, none⟩), .pointer (some ⟨w1.heap.size, 0, none⟩), .pointer (some ⟨Bi, 0, none⟩), .pointer (some ⟨Bs, 0, none⟩), undef, undef, undef, undef, .slice (some ⟨g, o, none⟩) r.length c, .bool true, .bool false, .slice (some ⟨g, o, none⟩) r.length c, .int .i64 r.length, .slice (some ⟨g, o, none⟩) r.length c, .func (.func 45) #[] #[.pointer (some ⟨w1.heap.size + 1, 0, none⟩)], .int .i64 x.i, .agg #[.int .i64 x.s.a.x, .int .i64 x.s.a.y, .int .i64 x.s.b.x, .int .i64 x.s.b.y], undef, undef, undef, undef, undef, undef, undef, undef, undef, undef, undef, undef, undef, undef, undef, undef, undef, undef, undef, undef, undef, undef, undef, undef, undef, undef, undef, undef, undef, undef, undef, undef, undef, undef, undef], defers := [] })
    (fun x a' _ X Y row hs hg hr => by
      obtain ⟨Bi, Bs, e1, e2, e3⟩ := hs
      exact ⟨Bi, Bs, e1, SiR.own () X Y row e2 hg hr, e3⟩)
    ?assign ?body ?done ?stop
  case assign =>
    rintro l pre x W K ⟨h, hb⟩ hK
    unfold encS
    have hbb : Below W.heap.size W ((W.alloc (.cells #[.int .i64 (x.i : Int)] 3)).alloc (.cells #[.int .i64 x.s.a.x, .int .i64 x.s.a.y, .int .i64 x.s.b.x, .int .i64 x.s.b.y] 36)) := ((Below.refl _ _).alloc (Nat.le_refl _) _).alloc (by simp) _
    have HBB := hide hbb
    clear hbb
    gi_wp2
    exact hK _ _ ((keepsOthers_below HBB.out).from _) (Kr.below HBB.out) ⟨h, hb.lift HBB.out⟩ ⟨W.heap.size, W.heap.size + 1, ⟨hb.size, by have := hb.size; omega⟩, ⟨blkO _ (blkN _ _ _ rfl), blkN _ _ _ (by simp)⟩, rfl⟩
  case body =>
    rintro l pre x a' W hl ⟨rr, hr⟩ ⟨hall, hB⟩ ⟨Bi, Bs, ⟨hBi, hBs⟩, hR, rfl⟩ hlt
    have cr := cell_of_row _ _ 0 _ _ _ hB.rb
    have hsW := hB.below.size
    have hsn := hB.size
    gi_wp2_with (gi_at_call 27; refine (CallsIn.inRound l (callsIn_wide.2 (sides_any _ _ _ _ rfl _))).mono ?_; rintro e w' ⟨rfl, rfl⟩)
    obtain ⟨W2, hW2⟩ : ∃ W2, W.alloc (.cells #[.slice (some ⟨g, o, none⟩) r.length c] 22) = W2 := ⟨_, rfl⟩
    have b2 : Below W.heap.size W W2 := by rw [← hW2]; exact (Below.refl _ _).alloc (Nat.le_refl _) _
    have hs2 : W2.heap.size = W.heap.size + 1 := by rw [← hW2]; simp
    have q4 : W2.heap[W.heap.size]? = some (.cells #[.slice (some ⟨g, o, none⟩) r.length c] 22 (0, 0)) := by rw [← hW2]; exact blkN _ _ _ rfl
    have hrg2 : Rg W.heap.size g o c r W2 := ⟨cell_of_row _ _ 0 _ _ _ q4, HP.out.below hg (hB.below.trans (b2.mono hsW))⟩
    have hr' : W2.heap[l]? = some (.loop rr) := (b2.block l (Array.getElem?_eq_some_iff.1 hr).1).trans hr
    have q2 : SiI w W w1.heap.size (w1.heap.size + 1) g o c r W0.heap.size Bi Bs x W2 := ⟨hB.lift b2, hR.lift b2, Kr.below b2, (keepsOthers_below b2).from _⟩
    rw [hW2]
    clear hW2 q4 cr hr
    refine wpIn_rangeFunc_ownN (l₀ := l) (r₀ := rr) rfl hr' (by omega) (gf := 45) (lb := #[.pointer (some ⟨W.heap.size, 0, none⟩)]) rfl trivial (enters_of Try.func45 (by kernel_rfl) rfl)
      ((sides_stops (20 - 1 - 1 - 1) (by omega) W.heap.size g o c r HF.out (by omega) W2 hrg2).inRound l) Kr.trans (fun W l o o' _ h1 h2 _ => Kr.putObj W l o o' h1 h2) (Below.refl _ _) (fun _ => rfl)
      (fun pre' W' => rowB r.length x.v (pre'.map Sd.v) = true ∧ SiI w W w1.heap.size (w1.heap.size + 1) g o c r W0.heap.size Bi Bs x W')
      (fun cd pre' W' => SiX w W w1.heap.size (w1.heap.size + 1) g o c r W0.heap.size Bi Bs x cd pre' W')
      (OwnFrom.and (ownFrom_pure _ _) (fun _ => SiI.own (by omega) (by omega) ()))
      (fun _ _ X Y row h hg hr => ⟨h.1, SiI.own (by omega) (by omega) () X Y row h.2 hg hr⟩) ⟨rfl, q2⟩
      (fun y a'' W' => ∃ Bt, W.heap.size ≤ Bt ∧ SgBox W' Bt y.s ∧ a'' = { tmps := #[.slice (some ⟨g, o, none⟩) r.length c, .pointer (some ⟨w.heap.size, 0, none⟩), .pointer (some ⟨w.heap.size + 1, 0, none⟩), .pointer (some ⟨w1.heap.size, 0, none⟩), .pointer (some ⟨Bi, 0, none⟩), .pointer (some ⟨Bs, 0, none⟩), .int .i64 y.i, .pointer (some ⟨Bt, 0, none⟩), undef, undef, .slice (some ⟨g, o, none⟩) r.length c, .bool true, .bool false, .slice (some ⟨g, o, none⟩) r.length c, .int .i64 r.length, .slice (some ⟨g, o, none⟩) r.length c, .func (.func 45) #[] #[.pointer (some ⟨w1.heap.size + 1, 0, none⟩)], .int .i64 x.i, .agg #[.int .i64 x.s.a.x, .int .i64 x.s.a.y, .int .i64 x.s.b.x, .int .i64 x.s.b.y], .slice (some ⟨g, o, none⟩) r.length c, .func (.func 45) #[] #[.pointer (some ⟨W.heap.size, 0, none⟩)], .int .i64 y.i, .agg #[.int .i64 y.s.a.x, .int .i64 y.s.a.y, .int .i64 y.s.b.x, .int .i64 y.s.b.y], undef, undef, undef, undef, undef, undef, undef, undef, undef, undef, undef, undef, undef, undef, undef, undef, undef, undef, undef, undef, undef, undef, undef, undef, undef, undef, undef, undef, undef, undef, undef], defers := [] })
      (fun y a'' _ X Y row hs hg hr => by
        obtain ⟨Bt, e1, e2, e3⟩ := hs
        exact ⟨Bt, e1, blk_own e2 hg (fun r e => (hr r e).2), e3⟩)
      ?assign2 ?body2 ?done2 ?stop2
    case assign2 =>
      rintro l2 pre' y W' K ⟨hrow, hI⟩ hK
      unfold encS
      have hbb : Below W'.heap.size W' (W'.alloc (.cells #[.int .i64 y.s.a.x, .int .i64 y.s.a.y, .int .i64 y.s.b.x, .int .i64 y.s.b.y] 36)) := (Below.refl _ _).alloc (Nat.le_refl _) _
      have HBB := hide hbb
      clear hbb
      gi_wp2
      exact hK _ _ ((keepsOthers_below HBB.out).from _) (Kr.below HBB.out) ⟨hrow, hI.lift HBB.out⟩ ⟨W'.heap.size, hI.kr.1, blkN _ _ _ rfl, rfl⟩
    case body2 =>
      rintro l2 pre' y a'' W' _ _ ⟨hrow, hI⟩ ⟨Bt, hBt, hT, rfl⟩ _
      have ci := hI.rr.i.cell
      obtain ⟨⟨s1, s2, s3, s4⟩, _⟩ := blk4 hI.rr.s
      obtain ⟨⟨t1, t2, t3, t4⟩, _⟩ := blk4 hT
      have hx := x.hi
      have hy := y.hi
      by_cases hge : x.i ≤ y.i
      · have hge' : (x.i : Int) ≤ y.i := by omega
        have hrow' : rowB r.length x.v ((pre' ++ [y]).map Sd.v) = true := by
          rw [List.map_append, rowB_app, hrow]
          have : decide (x.v.1 ≤ y.v.1) = true := decide_eq_true hge
          simp [rowB, this]
        have HR2 := hide hrow'
        have HI := hide hI
        clear hrow hrow' hall hI
        gi_wp2
        exact ⟨KeepsFrom.refl _ _, .inr ⟨rfl, HR2.out, y, by simp, hge⟩, HI.out⟩
      · have hge' : ¬ (x.i : Int) ≤ y.i := by omega
        have hrow' : rowB r.length x.v ((pre' ++ [y]).map Sd.v) = pairB r.length x.v y.v := by
          rw [List.map_append, rowB_app, hrow]
          have : decide (x.v.1 ≤ y.v.1) = false := decide_eq_false hge
          simp [rowB, this]
        have HM := hide (meets_any x.s.a.x x.s.a.y x.s.b.x x.s.b.y y.s.a.x y.s.a.y y.s.b.x y.s.b.y W')
        have hst : (⟨⟨x.s.a.x, x.s.a.y⟩, ⟨x.s.b.x, x.s.b.y⟩⟩ : Sg) = x.s := rfl
        have hst2 : (⟨⟨y.s.a.x, y.s.a.y⟩, ⟨y.s.b.x, y.s.b.y⟩⟩ : Sg) = y.s := rfl
        rw [hst, hst2] at HM
        obtain ⟨m, hm⟩ : ∃ m, meets x.s y.s = m := ⟨_, rfl⟩
        have hpair : pairB r.length x.v y.v = if nbr r.length x.i y.i then decide (m = 1) else decide (m = 0) := by rw [← hm]; rfl
        rw [hpair] at hrow'
        rw [hm] at HM
        have HI := hide hI
        have HR2 := hide hrow'
        have hcase : (((x.i : Int) - y.i == 1) = true ∧ (((x.i : Int) - y.i == 1) = true) ∧ nbr r.length x.i y.i = true) ∨ (((x.i : Int) - y.i == 1) = false ∧ ((x.i : Int) - y.i == (r.length : Int) - 1) = true ∧ nbr r.length x.i y.i = true) ∨ (((x.i : Int) - y.i == 1) = false ∧ ((x.i : Int) - y.i == (r.length : Int) - 1) = false ∧ nbr r.length x.i y.i = false) := by
          unfold nbr
          by_cases e1 : (x.i : Int) - y.i = 1
          · exact .inl ⟨beq_iff_eq.2 e1, beq_iff_eq.2 e1, by rw [decide_eq_true e1]; rfl⟩
          · by_cases e2 : (x.i : Int) - y.i = (r.length : Int) - 1
            · exact .inr (.inl ⟨beq_eq_false_iff_ne.2 e1, beq_iff_eq.2 e2, by rw [decide_eq_false e1, decide_eq_true e2]; rfl⟩)
            · exact .inr (.inr ⟨beq_eq_false_iff_ne.2 e1, beq_eq_false_iff_ne.2 e2, by rw [decide_eq_false e1, decide_eq_false e2]; rfl⟩)
        clear hst hst2 hpair hrow hrow' hall hm hI
        rcases hcase with ⟨k1, k2, k3⟩ | ⟨k1, k2, k3⟩ | ⟨k1, k2, k3⟩
        · have HK := hide k3
          clear k3
          by_cases e : m = 1
          · subst e
            gi_wp2_with (refine ⟨trivial, ?_⟩; gi_at_call 29; refine (CallsIn.inRound l2 (CallsIn.inRound l (callsIn_wide.2 HM.out))).mono ?_; rintro e w5 ⟨rfl, hb5⟩; have HB5 := hide hb5; have hI5 := HI.out.lift hb5; have c1 := hI5.rr.i.cell; have c2 := hI5.b.nb.cell; have c3 := hI5.b.res.cell; have c4 := hI5.b.res.frozen; have HI5 := hide hI5; clear hb5 hI5)
            exact ⟨(keepsOthers_below HB5.out).from _, Kr.below HB5.out, by rw [HR2.out, HK.out]; rfl, HI5.out⟩
          · have e1 : (m == 1) = false := by simpa using e
            have e2 : (m != 1) = true := by simpa using e
            have HE := hide e
            clear e
            gi_wp2_with (refine ⟨trivial, ?_⟩; gi_at_call 29; refine (CallsIn.inRound l2 (CallsIn.inRound l (callsIn_wide.2 HM.out))).mono ?_; rintro e w5 ⟨rfl, hb5⟩; have HB5 := hide hb5; have hI5 := HI.out.lift hb5; have c1 := hI5.rr.i.cell; have c2 := hI5.b.nb.cell; have c3 := hI5.b.res.cell; have c4 := hI5.b.res.frozen; have HI5 := hide hI5; clear hb5 hI5)
            exact ⟨((keepsOthers_below HB5.out).trans (KeepsOthers.setCell _ _ _)).from _, .inl ⟨rfl, by rw [HR2.out, HK.out]; exact decide_eq_false HE.out⟩, HI5.out.set (by omega) (by omega) hg (by omega) (by omega)⟩
        · have HK := hide k3
          clear k3
          by_cases e : m = 1
          · subst e
            gi_wp2_with (refine ⟨trivial, ?_⟩; gi_at_call 29; refine (CallsIn.inRound l2 (CallsIn.inRound l (callsIn_wide.2 HM.out))).mono ?_; rintro e w5 ⟨rfl, hb5⟩; have HB5 := hide hb5; have hI5 := HI.out.lift hb5; have c1 := hI5.rr.i.cell; have c2 := hI5.b.nb.cell; have c3 := hI5.b.res.cell; have c4 := hI5.b.res.frozen; have HI5 := hide hI5; clear hb5 hI5)
            exact ⟨(keepsOthers_below HB5.out).from _, Kr.below HB5.out, by rw [HR2.out, HK.out]; rfl, HI5.out⟩
          · have e1 : (m == 1) = false := by simpa using e
            have e2 : (m != 1) = true := by simpa using e
            have HE := hide e
            clear e
            gi_wp2_with (refine ⟨trivial, ?_⟩; gi_at_call 29; refine (CallsIn.inRound l2 (CallsIn.inRound l (callsIn_wide.2 HM.out))).mono ?_; rintro e w5 ⟨rfl, hb5⟩; have HB5 := hide hb5; have hI5 := HI.out.lift hb5; have c1 := hI5.rr.i.cell; have c2 := hI5.b.nb.cell; have c3 := hI5.b.res.cell; have c4 := hI5.b.res.frozen; have HI5 := hide hI5; clear hb5 hI5)
            exact ⟨((keepsOthers_below HB5.out).trans (KeepsOthers.setCell _ _ _)).from _, .inl ⟨rfl, by rw [HR2.out, HK.out]; exact decide_eq_false HE.out⟩, HI5.out.set (by omega) (by omega) hg (by omega) (by omega)⟩
        · have HK := hide k3
          clear k3
          by_cases e : m = 0
          · subst e
            gi_wp2_with (refine ⟨trivial, ?_⟩; gi_at_call 29; refine (CallsIn.inRound l2 (CallsIn.inRound l (callsIn_wide.2 HM.out))).mono ?_; rintro e w5 ⟨rfl, hb5⟩; have HB5 := hide hb5; have hI5 := HI.out.lift hb5; have c1 := hI5.rr.i.cell; have c2 := hI5.b.nb.cell; have c3 := hI5.b.res.cell; have c4 := hI5.b.res.frozen; have HI5 := hide hI5; clear hb5 hI5)
            exact ⟨(keepsOthers_below HB5.out).from _, Kr.below HB5.out, by rw [HR2.out, HK.out]; rfl, HI5.out⟩
          · have e1 : (m == 0) = false := by simpa using e
            have e2 : (m != 0) = true := by simpa using e
            have HE := hide e
            clear e
            gi_wp2_with (refine ⟨trivial, ?_⟩; gi_at_call 29; refine (CallsIn.inRound l2 (CallsIn.inRound l (callsIn_wide.2 HM.out))).mono ?_; rintro e w5 ⟨rfl, hb5⟩; have HB5 := hide hb5; have hI5 := HI.out.lift hb5; have c1 := hI5.rr.i.cell; have c2 := hI5.b.nb.cell; have c3 := hI5.b.res.cell; have c4 := hI5.b.res.frozen; have HI5 := hide hI5; clear hb5 hI5)
            exact ⟨((keepsOthers_below HB5.out).trans (KeepsOthers.setCell _ _ _)).from _, .inl ⟨rfl, by rw [HR2.out, HK.out]; exact decide_eq_false HE.out⟩, HI5.out.set (by omega) (by omega) hg (by omega) (by omega)⟩
    case done2 =>
      rintro ys W' hS ⟨hrow, hI⟩
      rw [hS] at hrow
      have hall' : allB r.length (sidesL r) ((pre ++ [x]).map Sd.v) = true := by
        rw [List.map_append, allB_app, hall]
        simp [allB, hrow]
      have HI := hide hI
      have HA := hide hall'
      clear hrow hall' hall hI
      gi_wp2
      exact ⟨HI.out.kf, HI.out.kr, HA.out, HI.out.b⟩
    case stop2 =>
      rintro cd pre' W' hS ⟨hcd, hI⟩
      have HI := hide hI
      rcases hcd with ⟨rfl, hrow⟩ | ⟨rfl, hrow, y, hy, hxy⟩
      · have hall' : allB r.length (sidesL r) ((pre ++ [x]).map Sd.v) = false := by
          rw [List.map_append, allB_app, hall]
          simp [allB, rowB_prefix _ _ _ _ hS hrow]
        have HA := hide hall'
        clear hrow hall' hall hI hS
        gi_wp2
        exact ⟨HI.out.kf, ⟨rfl, HA.out⟩, HI.out.b⟩
      · have hrow2 : rowB r.length x.v (sidesL r) = true := by
          obtain ⟨h1, h2⟩ := upto_of_pre _ _ hS
          rw [h1] at hrow
          refine rowB_behind _ _ _ _ h2 ?_ hrow
          have := upto_mem r _ y.v (by rw [← h1]; exact List.mem_map_of_mem hy)
          have e1 : y.v.1 = y.i := rfl
          have e2 : x.v.1 = x.i := rfl
          omega
        have hall' : allB r.length (sidesL r) ((pre ++ [x]).map Sd.v) = true := by
          rw [List.map_append, allB_app, hall]
          simp [allB, hrow2]
        have HA := hide hall'
        clear hrow hrow2 hall' hall hI hS
        gi_wp2
        exact ⟨HI.out.kf, HI.out.kr, HA.out, HI.out.b⟩
  case done =>
    rintro D xs W hD hS ⟨hall, hB⟩ hK
    have c0 := hB.res.cell
    have f0 := hB.res.frozen
    rw [hS] at hall
    have HA := hide hall
    have hK' := (KeepsOthers.setCell W ⟨w.heap.size + 1, 0, none⟩ (.bool true)).same D _ hK rfl
    have d0 := cell_kept (hB.res.set (.bool true)).cell (grownBy_putObj' _ D (.deferred none)) (fun r e => by cases e; exact ⟨_, hK', rfl⟩)
    have hbel := hB.below.setCell (p := ⟨w.heap.size + 1, 0, none⟩) (by simp) (.bool true)
    have HK := hide hK'
    clear hall hS hK hK'
    gi_wp2
    refine ⟨by simp, .inl ⟨_, _, rfl, run_takeDeferred HK.out, ?_⟩⟩
    refine ⟨.bool true, ?_, by rw [HA.out], hbel.trans (belowK_b (w := w) (Nat.le_refl _) _ D _ _ (by omega) HK.out rfl rfl)⟩
    simp [results, Try.f14, go_sem, d0]
  case stop =>
    rintro D cd pre W hD hS ⟨⟨rfl, hall⟩, hB⟩ hK
    have hno : allB r.length (sidesL r) (sidesL r) = false := allB_prefix _ _ _ _ hS hall
    have d0 := cell_kept hB.res.cell (grownBy_putObj' _ D (.deferred none)) (fun r e => by cases e; exact ⟨_, hK, rfl⟩)
    have HN := hide hno
    have HK := hide hK
    have hbel := hB.below
    clear hno hall hS hK
    gi_wp2
    refine ⟨by simp, .inl ⟨_, _, rfl, run_takeDeferred HK.out, ?_⟩⟩
    refine ⟨.bool false, ?_, by rw [HN.out], hbel.trans (belowK_b (w := w) (Nat.le_refl _) _ D _ _ (by omega) HK.out rfl rfl)⟩
    simp [results, Try.f14, go_sem, d0]

theorem simple_any (r : List Pt) (v : Value) (w : World) (hv : SlP w v r) (hl : r.length ≤ 100000) :
    Calls Try.prog 14 #[v] w fun e w' => e = .returned (.bool (simple r)) ∧ Below w.heap.size w w' := by
  cases hreg : regB r with
  | false => exact simple_no r v w hv hl hreg
  | true => exact simple_yes r v w hv hl hreg
end Go.Proofs.Ytmklnioedeailaa
