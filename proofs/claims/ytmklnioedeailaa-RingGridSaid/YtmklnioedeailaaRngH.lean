/-
  How two rings are related, walked.
-/
import Derived.Test.YtmklnioedeailaaRngG
import Derived.BigQuiet
import Derived.Deep.RegionHeld3
namespace Go.Proofs.Ytmklnioedeailaa
open Go.RowKit Go.Proofs.PlGeom Go.Proofs.PlRing
attribute [local go_sem] Oper.semAt_some

/-- The boxes of Relation. -/
structure ReB (w : World) (g2 o2 c2 : Nat) (s : List Pt) (n0 : Nat) (W : World) : Prop where
  size : n0 ≤ W.heap.size
  sb : W.heap[w.heap.size]? = some (.cells #[.slice (some ⟨g2, o2, none⟩) s.length c2] 22 (0, 0))
  res : Boxed W (w.heap.size + 1) 3 (.int .i64 0)
  below : Below w.heap.size w W
theorem ReB.own {w : World} {g2 o2 c2 : Nat} {s : List Pt} {n0 B : Nat} (hB : w.heap.size ≤ B) : OwnFrom B (fun (_ : Unit) W => ReB w g2 o2 c2 s n0 W) := fun _ X Y row h hg hr =>
  ⟨Nat.le_trans h.size hg.size, blk_own h.sb hg (fun r e => (hr r e).2), blk_own h.res hg (fun r e => (hr r e).2), ownFrom_below (β := Unit) (Nat.le_refl _) hB () X Y row h.below hg hr⟩
theorem ReB.lift {w : World} {g2 o2 c2 : Nat} {s : List Pt} {n0 : Nat} {W W' : World} (h : ReB w g2 o2 c2 s n0 W) (hb : Below W.heap.size W W') : ReB w g2 o2 c2 s n0 W' :=
  ⟨Nat.le_trans h.size hb.size, blkB hb h.sb, blkB hb h.res, bto h.below hb⟩
theorem ReB.set {w : World} {g2 o2 c2 : Nat} {s : List Pt} {n0 : Nat} {W : World} (h : ReB w g2 o2 c2 s n0 W) : ReB w g2 o2 c2 s n0 (W.setCell ⟨w.heap.size + 1, 0, none⟩ (.int .i64 0)) :=
  ⟨by have := h.size; simp; omega, blkS _ _ h.sb (by omega), Boxed.set _ h.res, h.below.setCell (by simp) _⟩
/-- What an inner round knows. -/
structure ReI (w W : World) (B4 g g2 o2 c2 : Nat) (s : List Pt) (n0 Ba : Nat) (x : Sd) (W' : World) : Prop where
  b : ReB w g2 o2 c2 s n0 W'
  a : SgBox W' Ba x.s
  kr : Kr B4 g W W'
  kf : KeepsFrom n0 W W'
theorem ReI.own {w W : World} {B4 g g2 o2 c2 : Nat} {s : List Pt} {n0 Ba : Nat} {x : Sd} {B : Nat} (hB : w.heap.size ≤ B) (hW : W.heap.size ≤ B) : OwnFrom B (fun (_ : Unit) W' => ReI w W B4 g g2 o2 c2 s n0 Ba x W') := fun _ X Y row h hg hr =>
  ⟨ReB.own hB () X Y row h.b hg hr, blk_own h.a hg (fun r e => (hr r e).2), krOwn B4 g B W () X Y row h.kr hg hr, ownFrom_keepsFrom (β := Unit) hW () X Y row h.kf hg hr⟩
theorem ReI.lift {w W : World} {B4 g g2 o2 c2 : Nat} {s : List Pt} {n0 Ba : Nat} {x : Sd} {X Y : World} (h : ReI w W B4 g g2 o2 c2 s n0 Ba x X) (hb : Below X.heap.size X Y) : ReI w W B4 g g2 o2 c2 s n0 Ba x Y :=
  ⟨h.b.lift hb, blkB hb h.a, h.kr.trans (Kr.below hb), h.kf.trans ((keepsOthers_below hb).from _)⟩
theorem ReI.set {w W : World} {B4 g g2 o2 c2 : Nat} {s : List Pt} {n0 Ba : Nat} {x : Sd} {X : World} (h : ReI w W B4 g g2 o2 c2 s n0 Ba x X) (h4 : w.heap.size + 1 < B4) (hg : g < w.heap.size) (ha : w.heap.size + 1 < Ba) :
    ReI w W B4 g g2 o2 c2 s n0 Ba x (X.setCell ⟨w.heap.size + 1, 0, none⟩ (.int .i64 0)) :=
  ⟨h.b.set, blkS _ _ h.a (by omega), h.kr.trans (Kr.set _ _ _ _ (by omega) (by omega)), h.kf.trans ((KeepsOthers.setCell _ _ _).from _)⟩

/-- An invariant of what has come up, of the frame and of the world serves every order of a region that draws its order. -/
theorem wpAny_inv {P : Program} {md : Region.Mode} {ops : Array Oper} {Q : Exit → Act → World → Prop} (I : Array Bool → Act → World → Prop)
    (hstep : ∀ listed a w i, I listed a w → i ∈ Region.ready md ops listed → wpOp P ops Q i (fun a' w' => I (listed.setIfInBounds i true) a' w') a w)
    (hend : ∀ listed a w, I listed a w → Region.ready md ops listed = [] → Q .normal a w) :
    ∀ (fuel : Nat) (listed : Array Bool) (a : Act) (w : World), listed.toList.count false ≤ fuel → I listed a w → wpAny P md ops Q fuel listed a w := by
  have wpOp_mono : ∀ {i : Nat} {a : Act} {w : World} {K K' : Act → World → Prop}, (∀ a w, K a w → K' a w) → wpOp P ops Q i K a w → wpOp P ops Q i K' a w := by
    intro i a w K K' h hh
    unfold wpOp at *
    split
    · rename_i ho; simp only [ho] at hh; exact h _ _ hh
    · rename_i o ho
      simp only [ho] at hh
      split
      · rename_i hw
        simp only [hw, if_true] at hh
        rcases hh with hh | hh
        · exact .inl (Oper.wp_mono h hh)
        · exact .inr hh
      · rename_i hw
        simp only [hw] at hh
        exact h _ _ hh
  intro fuel
  induction fuel with
  | zero =>
    intro listed a w hc hI
    have hr : Region.ready md ops listed = [] := by
      rcases hl : Region.ready md ops listed with _ | ⟨i, l⟩
      · rfl
      · have hi : i ∈ Region.ready md ops listed := by rw [hl]; exact List.mem_cons_self
        have h0 := (mem_ready.1 hi).1
        have hlt : i < listed.size := by
          rcases Nat.lt_or_ge i listed.size with h | h
          · exact h
          · simp [h] at h0
        have hm : false ∈ listed.toList := by
          rw [Array.getD_eq_getD_getElem?, Array.getElem?_eq_getElem hlt, Option.getD_some] at h0
          rw [← h0]
          exact Array.getElem_mem_toList hlt
        have := List.count_pos_iff.2 hm
        omega
    exact ⟨hr, hend _ _ _ hI hr⟩
  | succ fuel ih =>
    intro listed a w hc hI
    refine ⟨hend _ _ _ hI, fun i hi => ?_⟩
    have h0 := (mem_ready.1 hi).1
    have hlt : i < listed.size := by
      rcases Nat.lt_or_ge i listed.size with h | h
      · exact h
      · simp [h] at h0
    rw [Array.getD_eq_getD_getElem?, Array.getElem?_eq_getElem hlt, Option.getD_some] at h0
    refine wpOp_mono (fun a' w' h => ih _ a' w' ?_ h) (hstep listed a w i hI hi)
    rw [Array.toList_setIfInBounds, List.count_set (by simpa using hlt)]
    simp only [Array.getElem_toList, h0]
    rw [if_pos (by decide), if_neg (by decide)]
    omega

/-- One operation of a region, what follows behind a variable. -/
theorem wpOp_run {P : Program} {ops : Array Oper} {Q : Exit → Act → World → Prop} {i : Nat} {o : Oper} {K' : Act → World → Prop} {a : Act} {w : World} (ho : ops[i]? = some o) (hg : o.guard = none)
    (h : ∀ K : Act → World → Prop, (∀ a w, K' a w → K a w) → o.wp P a w K Q) : wpOp P ops Q i K' a w := by
  unfold wpOp
  simp only [ho]
  rw [if_pos (by simp [Region.wanted, hg])]
  exact .inl (h K' fun _ _ h => h)


/-- Three counts in new memory, once they have been stored. -/
def NewA (wx : World) (g : Nat) (b : Bool) (u v z : Int) : Prop := ∃ c d e : Value, wx.heap[g]? = some (.cells #[c, d, e] 49 (0, 0)) ∧ (b = true → c = .int .i64 u ∧ d = .int .i64 v ∧ e = .int .i64 z)
theorem NewA.lift {wx wy : World} {g : Nat} {b : Bool} {u v z : Int} (h : NewA wx g b u v z) (hb : Below wx.heap.size wx wy) : NewA wy g b u v z := by
  obtain ⟨c, d, e, h1, h2⟩ := h
  exact ⟨c, d, e, blkB hb h1, h2⟩
theorem NewA.set {wx : World} {g : Nat} {b : Bool} {u v z : Int} (h : NewA wx g b u v z) (g' i : Nat) (x : Value) (hne : g ≠ g') : NewA (wx.setCell ⟨g', i, none⟩ x) g b u v z := by
  obtain ⟨c, d, e, h1, h2⟩ := h
  exact ⟨c, d, e, blkS i x h1 hne, h2⟩
theorem NewA.lt {wx : World} {g : Nat} {b : Bool} {u v z : Int} (h : NewA wx g b u v z) : g < wx.heap.size := by
  obtain ⟨c, d, e, h1, h2⟩ := h
  exact lt_of_block h1
/-- The boxes of Relation behind its loops, and the record of its deferred calls. -/
structure ReK (w : World) (D g2 o2 c2 : Nat) (s : List Pt) (n0 : Nat) (W : World) : Prop where
  b : ReB w g2 o2 c2 s n0 W
  k : W.heap[D]? = some (.deferred (some []))
theorem ReK.lift {w : World} {D g2 o2 c2 : Nat} {s : List Pt} {n0 : Nat} {W W' : World} (h : ReK w D g2 o2 c2 s n0 W) (hb : Below W.heap.size W W') : ReK w D g2 o2 c2 s n0 W' := ⟨h.b.lift hb, blkB hb h.k⟩
theorem ReK.setN {w : World} {D g2 o2 c2 : Nat} {s : List Pt} {n0 : Nat} {W : World} (h : ReK w D g2 o2 c2 s n0 W) (g i : Nat) (u : Value) (hg : w.heap.size + 2 ≤ g) (hD : g ≠ D) : ReK w D g2 o2 c2 s n0 (W.setCell ⟨g, i, none⟩ u) :=
  ⟨⟨by have := h.b.size; simp; omega, blkS _ _ h.b.sb (by omega), blkS _ _ h.b.res (by omega), h.b.below.setCell (by simp; omega) _⟩, blkS _ _ h.k (by omega)⟩
theorem re_close {w wx : World} {D g2 o2 c2 : Nat} {s : List Pt} {n0 : Nat} (h : ReK w D g2 o2 c2 s n0 wx) (u : Int) :
    (wx.setCell ⟨w.heap.size + 1, 0, none⟩ (.int .i64 u)).heap[D]? = some (.deferred (some [])) ∧ Below w.heap.size w (wx.setCell ⟨w.heap.size + 1, 0, none⟩ (.int .i64 u)) ∧ ((wx.setCell ⟨w.heap.size + 1, 0, none⟩ (.int .i64 u)).putObj D (.deferred none)).cell? ⟨w.heap.size + 1, 0, none⟩ = some (.int .i64 u) := by
  have hK' := (KeepsOthers.setCell wx ⟨w.heap.size + 1, 0, none⟩ (.int .i64 u)).same D _ h.k rfl
  refine ⟨hK', h.b.below.setCell (by simp) _, ?_⟩
  exact cell_kept (Boxed.set (.int .i64 u) h.b.res).cell (grownBy_putObj' _ D (.deferred none)) (fun r e => by cases e; exact ⟨_, hK', rfl⟩)
/-- What has come up of the region, and what it has left. -/
structure RR (w : World) (D g2 o2 c2 : Nat) (s : List Pt) (n0 : Nat) (vr vs : Value) (a1 a2 a3 d1 d2 d3 : Int) (wx : World) (b0 b1 b2 b3 b4 b5 b6 b7 b8 b9 : Bool) (x34 x35 x36 x37 x38 x39 y1 y2 : Value) (gA gB : Nat) : Prop where
  ob : ReK w D g2 o2 c2 s n0 wx
  l0 : b0 = true → x34 = vr
  l1 : b1 = true → x35 = vs
  l2 : b2 = true → x36 = .agg #[.int .i64 a1, .int .i64 a2, .int .i64 a3]
  l3 : b3 = true → x37 = vs
  l4 : b4 = true → x38 = vr
  l5 : b5 = true → x39 = .agg #[.int .i64 d1, .int .i64 d2, .int .i64 d3]
  p1 : b6 = true → y1 = .pointer (some ⟨gA, 0, none⟩) ∧ w.heap.size + 2 ≤ gA ∧ NewA wx gA b8 a1 a2 a3
  p2 : b7 = true → y2 = .pointer (some ⟨gB, 0, none⟩) ∧ w.heap.size + 2 ≤ gB ∧ NewA wx gB b9 d1 d2 d3
  m1 : b8 = true → b6 = true
  m2 : b9 = true → b7 = true
  n12 : b6 = true → b7 = true → gA ≠ gB
theorem RR.lift {w : World} {D g2 o2 c2 : Nat} {s : List Pt} {n0 : Nat} {vr vs : Value} {a1 a2 a3 d1 d2 d3 : Int} {wx wy : World} {b0 b1 b2 b3 b4 b5 b6 b7 b8 b9 : Bool} {x34 x35 x36 x37 x38 x39 y1 y2 : Value} {gA gB : Nat} (h : RR w D g2 o2 c2 s n0 vr vs a1 a2 a3 d1 d2 d3 wx b0 b1 b2 b3 b4 b5 b6 b7 b8 b9 x34 x35 x36 x37 x38 x39 y1 y2 gA gB) (hb : Below wx.heap.size wx wy) : RR w D g2 o2 c2 s n0 vr vs a1 a2 a3 d1 d2 d3 wy b0 b1 b2 b3 b4 b5 b6 b7 b8 b9 x34 x35 x36 x37 x38 x39 y1 y2 gA gB :=
  ⟨h.ob.lift hb, h.l0, h.l1, h.l2, h.l3, h.l4, h.l5, fun e => ⟨(h.p1 e).1, (h.p1 e).2.1, (h.p1 e).2.2.lift hb⟩, fun e => ⟨(h.p2 e).1, (h.p2 e).2.1, (h.p2 e).2.2.lift hb⟩, h.m1, h.m2, h.n12⟩
def frR (DD : Nat) (pre mid post : List Value) (x34 x35 x36 x37 x38 x39 y1 y2 : Value) : Act := ⟨(pre ++ [y1, y2] ++ mid ++ [x34, x35, x36, x37, x38, x39] ++ post).toArray, [{ target := .collected DD, args := #[] }]⟩
def RRs (w : World) (D g2 o2 c2 : Nat) (s : List Pt) (n0 : Nat) (vr vs : Value) (a1 a2 a3 d1 d2 d3 : Int) (pre mid post : List Value) (listed : Array Bool) (a : Act) (wx : World) : Prop :=
  ∃ (b0 b1 b2 b3 b4 b5 b6 b7 b8 b9 : Bool) (x34 x35 x36 x37 x38 x39 y1 y2 : Value) (gA gB : Nat), listed = #[b0, b1, b2, b3, b4, b5, b6, b7, b8, b9] ∧ a = frR D pre mid post x34 x35 x36 x37 x38 x39 y1 y2 ∧ RR w D g2 o2 c2 s n0 vr vs a1 a2 a3 d1 d2 d3 wx b0 b1 b2 b3 b4 b5 b6 b7 b8 b9 x34 x35 x36 x37 x38 x39 y1 y2 gA gB

theorem re_start (v : Value) (w : World) : ∃ wa, (w.alloc (.cells #[v] 22)).alloc (.cells #[.int .i64 0] 3) = wa ∧ wa.heap.size = w.heap.size + 2 ∧ Below w.heap.size w wa ∧
    wa.heap[w.heap.size]? = some (.cells #[v] 22 (0, 0)) ∧ Boxed wa (w.heap.size + 1) 3 (.int .i64 0) := by
  refine ⟨_, rfl, by simp, ((Below.refl _ w).alloc (Nat.le_refl _) _).alloc (by simp) _, blkO _ (blkN _ _ _ rfl), blkN _ _ _ (by simp)⟩

set_option maxHeartbeats 2000000 in
theorem relation_no (r s : List Pt) (v v2 : Value) (w : World) (hv : SlP w v r) (hv2 : SlP w v2 s) (hl : r.length ≤ 100000) (hl2 : s.length ≤ 100000) (hno : (simple r && simple s) = false) :
    Calls Try.prog 18 #[v, v2] w fun e w' => e = .returned (.int .i64 (relation r s)) ∧ Below w.heap.size w w' := by
  have ht : relation r s = 0 := by unfold relation; rw [hno]; rfl
  rw [ht]
  obtain ⟨wa, hwa, hsz, ba, a1, a2⟩ := re_start v2 w
  have HG := hide (simple_any r v wa (hv.below ba) hl)
  have HG2 := hide (fun (W : World) (h : Below w.heap.size w W) => simple_any s v2 W (hv2.below h) hl2)
  obtain ⟨A, c, rfl, _⟩ := hv
  obtain ⟨A2, c2, rfl, _⟩ := hv2
  cases hs : simple r with
  | false =>
    rw [hs] at HG
    clear hno ht
    go_enter Try.func18, Try.ntmps18
    go_wp2_with fail
    refine (HG.out).mono ?_
    rintro _ w1 ⟨rfl, hb⟩
    have HW := hide hwa
    clear hwa
    have b2 : Boxed w1 (w.heap.size + 1) 3 (.int .i64 0) := blkB hb a2
    have d2 := b2.cell
    have d3 := b2.frozen
    have hbel := ((ba.trans (hb.mono (by omega))).setCell (p := ⟨w.heap.size + 1, 0, none⟩) (by simp) (.int .i64 0))
    have c5 := (b2.set (.int .i64 0)).cell
    go_wp2_with fail
    refine bodyPost_ret (v := .int .i64 0) ?_ rfl ⟨rfl, hbel⟩
    simp [results, Try.f18, go_sem, c5]
  | true =>
    have hs2 : simple s = false := by rw [hs] at hno; simpa using hno
    rw [hs] at HG
    rw [hs2] at HG2
    clear hno ht hs hs2
    go_enter Try.func18, Try.ntmps18
    go_wp2_with fail
    refine (HG.out).mono ?_
    rintro _ w1 ⟨rfl, hb⟩
    have HW := hide hwa
    clear hwa
    have b1 := blkB hb a1
    have d1 := cell_of_row _ _ 0 _ _ _ b1
    have hb2 := ba.trans (hb.mono (by omega))
    have HB2 := hide hb2
    have HB := hide hb
    clear hb hb2
    go_wp2_with fail
    refine (HG2.out _ HB2.out).mono ?_
    rintro _ w2 ⟨rfl, hb3⟩
    have b2 : Boxed w2 (w.heap.size + 1) 3 (.int .i64 0) := blkB hb3 (blkB HB.out a2)
    have d2 := b2.cell
    have d3 := b2.frozen
    have hbel := ((bto HB2.out hb3).setCell (p := ⟨w.heap.size + 1, 0, none⟩) (by simp) (.int .i64 0))
    have c5 := (b2.set (.int .i64 0)).cell
    clear d1 b1
    go_wp2_with fail
    refine bodyPost_ret (v := .int .i64 0) ?_ rfl ⟨rfl, hbel⟩
    simp [results, Try.f18, go_sem, c5]

set_option maxRecDepth 100000 in
set_option maxHeartbeats 8000000 in
theorem relation_yes (r s : List Pt) (v v2 : Value) (w : World) (hv : SlP w v r) (hv2 : SlP w v2 s) (hl : r.length ≤ 100000) (hl2 : s.length ≤ 100000) (hs1 : simple r = true) (hs2 : simple s = true) :
    Calls Try.prog 18 #[v, v2] w fun e w' => e = .returned (.int .i64 (relation r s)) ∧ Below w.heap.size w w' := by
  have hreg := simple_reg r hs1
  have hreg2 := simple_reg s hs2
  obtain ⟨hfine, h3⟩ := regB_fine r hreg
  obtain ⟨hfine2, h32⟩ := regB_fine s hreg2
  have ht : relation r s = if badLL (sidesL s) (sidesL r) then 0 else relC (cnt r s 1) (cnt r s (-1)) (cnt s r 1) (cnt s r (-1)) := by
    unfold relation; rw [hs1, hs2]; cases badLL (sidesL s) (sidesL r) <;> rfl
  obtain ⟨wa, hwa, hsz, ba, a1, a2⟩ := re_start v2 w
  have HG := hide (simple_any r v wa (hv.below ba) hl)
  have HG2 := hide (fun (W : World) (h : Below w.heap.size w W) => simple_any s v2 W (hv2.below h) hl2)
  rw [hs1] at HG
  rw [hs2] at HG2
  have HM1 := hide (fun (W : World) (h : Below w.heap.size w W) => middles_any r s v v2 W (hv.below h) (hv2.below h) hreg hreg2)
  have HM2 := hide (fun (W : World) (h : Below w.heap.size w W) => middles_any s r v2 v W (hv2.below h) (hv.below h) hreg2 hreg)
  obtain ⟨A, c, rfl, hA⟩ := hv
  obtain ⟨g, o, rfl, hg, hp⟩ := hA.resolve_left (by rintro rfl; simp at h3)
  obtain ⟨A2, c2, rfl, hA2⟩ := hv2
  obtain ⟨g2, o2, rfl, hg2, hp2⟩ := hA2.resolve_left (by rintro rfl; simp at h32)
  have HP := hide hp
  have HP2 := hide hp2
  have HF := hide hfine
  have HF2 := hide hfine2
  have HT := hide ht
  clear hA hA2 hp hp2 hfine hfine2 hreg hreg2 hs1 hs2 ht
  refine (callsIn_wide (n := 20)).1 ?_
  refine callsIn_of_wp_marks Try.func18 rfl trivial ?_ rfl
  simp only [Try.ntmps18, List.size_toArray, List.length_cons, List.length_nil, Nat.reduceAdd, Nat.reduceSub, Array.replicate_succ, Array.replicate_zero, List.push_toArray, List.append_toArray, List.nil_append, List.cons_append]
  gi_wp2_with ((try refine ⟨trivial, ?_⟩); gi_at_call 14; refine (callsIn_wide.2 HG.out).mono ?_; rintro e w1 ⟨rfl, hb1⟩; have b1 := blkB hb1 a1; have d1 := cell_of_row _ _ 0 _ _ _ b1; have hwb := ba.trans (hb1.mono (by omega)); have HWB := hide hwb; have HB1 := hide hb1; clear hb1 hwb HG)
  have HWA := hide hwa
  clear hwa
  gi_wp2_with (first
    | ((try refine ⟨trivial, ?_⟩); gi_at_call 14; refine (callsIn_wide.2 (HG2.out _ HWB.out)).mono ?_; rintro e w2 ⟨rfl, hb2⟩; have HB2 := hide hb2; clear hb2 d1 HG2)
    | ((try refine ⟨trivial, ?_⟩); gi_at_call 27; refine (callsIn_wide.2 (sides_any _ _ _ _ rfl _)).mono ?_; rintro e w3 ⟨rfl, rfl⟩))
  have few := HF.out.few
  have few2 := HF2.out.few
  have hsz1 := HB1.out.size
  have hsz2 := HB2.out.size
  obtain ⟨W0, hW0⟩ : ∃ W0, w2.alloc (.cells #[.slice (some ⟨g, o, none⟩) r.length c] 22) = W0 := ⟨_, rfl⟩
  have hbW : Below w2.heap.size w2 W0 := by rw [← hW0]; exact (Below.refl _ _).alloc (Nat.le_refl _) _
  have hsz0 : W0.heap.size = w2.heap.size + 1 := by rw [← hW0]; simp
  have q1 : ReB w g2 o2 c2 s W0.heap.size W0 := ⟨Nat.le_refl _, blkB hbW (blkB HB2.out b1), blkB hbW (blkB HB2.out (blkB HB1.out a2)), bto (bto HWB.out HB2.out) hbW⟩
  have q4 : W0.heap[w2.heap.size]? = some (.cells #[.slice (some ⟨g, o, none⟩) r.length c] 22 (0, 0)) := by rw [← hW0]; exact blkN _ _ _ rfl
  have hrg : Rg w2.heap.size g o c r W0 := ⟨cell_of_row _ _ 0 _ _ _ q4, HP.out.below hg q1.below⟩
  rw [hW0]
  clear hW0 q4 a1 a2 b1 ba
  refine wpIn_rangeFunc_ownH rfl (by omega) (gf := 45) (lb := #[.pointer (some ⟨w2.heap.size, 0, none⟩)]) rfl trivial (enters_of Try.func45 (by kernel_rfl) rfl)
    (sides_stops 19 (by omega) w2.heap.size g o c r HF.out (by omega) W0 hrg) Kr.trans (fun W l o o' _ h1 h2 _ => Kr.putObj W l o o' h1 h2) (Below.refl _ _) (fun _ => rfl)
    (fun pre W => badLL (sidesL s) (pre.map Sd.v) = false ∧ ReB w g2 o2 c2 s W0.heap.size W)
    (fun cd pre W => (cd = .ret ∧ badLL (sidesL s) (pre.map Sd.v) = true) ∧ ReB w g2 o2 c2 s W0.heap.size W)
    (OwnFrom.and (ownFrom_pure _ _) (fun _ => ReB.own (by omega) ())) (fun _ => OwnFrom.and (ownFrom_pure _ _) (fun _ => ReB.own (by omega) ())) ⟨rfl, q1⟩
    (fun x a' W => ∃ Ba, W0.heap.size ≤ Ba ∧ SgBox W Ba x.s ∧ a' = { tmps := #[.slice (some ⟨g, o, none⟩) r.length c, .slice (some ⟨g2, o2, none⟩) s.length c2, undef, .pointer (some ⟨w.heap.size, 0, none⟩), .pointer (some ⟨w.heap.size + 1, 0, none⟩), undef, .pointer (some ⟨Ba, 0, none⟩), undef, undef, undef, undef, .slice (some ⟨g, o, none⟩) r.length c, .bool true, .bool false, .bool false, .slice (some ⟨g2, o2, none⟩) s.length c2, .bool true, .bool false, .bool false, .slice (some ⟨g, o, none⟩) r.length c, .func (.func 45) #[] #[.pointer (some ⟨w2.heap.size, 0, none⟩)], .int .i64 x.i, .agg #[.int .i64 x.s.a.x, .int .i64 x.s.a.y, .int .i64 x.s.b.x, .int .i64 x.s.b.y], undef, undef, undef, undef, undef, undef, undef, undef, undef, undef, undef, undef, undef, undef, undef, undef, undef, undef, undef, undef, undef, undef, undef, undef, undef, undef, undef, undef, undef, undef, undef, undef, undef, undef, undef, undef, undef, undef, undef, undef, undef, undef, undef, undef, undef, undef, undef, undef], defers := [] })
    (fun x a' _ X Y row hs hg hr => by
      obtain ⟨Ba, e1, e2, e3⟩ := hs
      exact ⟨Ba, e1, blk_own e2 hg (fun r e => (hr r e).2), e3⟩)
    ?assign ?body ?done ?stop
  case assign =>
    rintro l pre x W K ⟨h, hb⟩ hK
    unfold encS
    have hbb : Below W.heap.size W (W.alloc (.cells #[.int .i64 x.s.a.x, .int .i64 x.s.a.y, .int .i64 x.s.b.x, .int .i64 x.s.b.y] 36)) := (Below.refl _ _).alloc (Nat.le_refl _) _
    have HBB := hide hbb
    clear hbb
    gi_wp2
    exact hK _ _ ((keepsOthers_below HBB.out).from _) (Kr.below HBB.out) ⟨h, hb.lift HBB.out⟩ ⟨W.heap.size, hb.size, blkN _ _ _ rfl, rfl⟩
  case body =>
    rintro l pre x a' W hl ⟨rr, hr⟩ ⟨hall, hB⟩ ⟨Ba, hBa, hA, rfl⟩ hlt
    have cr := cell_of_row _ _ 0 _ _ _ hB.sb
    have hsW := hB.below.size
    have hsn := hB.size
    gi_wp2_with ((try refine ⟨trivial, ?_⟩); gi_at_call 27; refine (CallsIn.inRound l (callsIn_wide.2 (sides_any _ _ _ _ rfl _))).mono ?_; rintro e w' ⟨rfl, rfl⟩)
    obtain ⟨W2, hW2⟩ : ∃ W2, W.alloc (.cells #[.slice (some ⟨g2, o2, none⟩) s.length c2] 22) = W2 := ⟨_, rfl⟩
    have b2 : Below W.heap.size W W2 := by rw [← hW2]; exact (Below.refl _ _).alloc (Nat.le_refl _) _
    have hs2 : W2.heap.size = W.heap.size + 1 := by rw [← hW2]; simp
    have q4 : W2.heap[W.heap.size]? = some (.cells #[.slice (some ⟨g2, o2, none⟩) s.length c2] 22 (0, 0)) := by rw [← hW2]; exact blkN _ _ _ rfl
    have hrg2 : Rg W.heap.size g2 o2 c2 s W2 := ⟨cell_of_row _ _ 0 _ _ _ q4, HP2.out.below hg2 (hB.below.trans (b2.mono hsW))⟩
    have hr' : W2.heap[l]? = some (.loop rr) := (b2.block l (Array.getElem?_eq_some_iff.1 hr).1).trans hr
    have q2 : ReI w W w2.heap.size g g2 o2 c2 s W0.heap.size Ba x W2 := ⟨hB.lift b2, blkB b2 hA, Kr.below b2, (keepsOthers_below b2).from _⟩
    rw [hW2]
    clear hW2 q4 cr hr
    refine wpIn_rangeFunc_ownN (l₀ := l) (r₀ := rr) rfl hr' (by omega) (gf := 45) (lb := #[.pointer (some ⟨W.heap.size, 0, none⟩)]) rfl trivial (enters_of Try.func45 (by kernel_rfl) rfl)
      ((sides_stops (20 - 1 - 1 - 1) (by omega) W.heap.size g2 o2 c2 s HF2.out (by omega) W2 hrg2).inRound l) Kr.trans (fun W l o o' _ h1 h2 _ => Kr.putObj W l o o' h1 h2) (Below.refl _ _) (fun _ => rfl)
      (fun pre' W' => badL x.s (pre'.map Sd.v) = false ∧ ReI w W w2.heap.size g g2 o2 c2 s W0.heap.size Ba x W')
      (fun cd pre' W' => (cd = .ret ∧ badL x.s (pre'.map Sd.v) = true) ∧ ReI w W w2.heap.size g g2 o2 c2 s W0.heap.size Ba x W')
      (OwnFrom.and (ownFrom_pure _ _) (fun _ => ReI.own (by omega) (by omega) ()))
      (fun _ => OwnFrom.and (ownFrom_pure _ _) (fun _ => ReI.own (by omega) (by omega) ())) ⟨rfl, q2⟩
      (fun y a'' W' => ∃ Bt, W.heap.size ≤ Bt ∧ SgBox W' Bt y.s ∧ a'' = { tmps := #[.slice (some ⟨g, o, none⟩) r.length c, .slice (some ⟨g2, o2, none⟩) s.length c2, undef, .pointer (some ⟨w.heap.size, 0, none⟩), .pointer (some ⟨w.heap.size + 1, 0, none⟩), undef, .pointer (some ⟨Ba, 0, none⟩), undef, .pointer (some ⟨Bt, 0, none⟩), undef, undef, .slice (some ⟨g, o, none⟩) r.length c, .bool true, .bool false, .bool false, .slice (some ⟨g2, o2, none⟩) s.length c2, .bool true, .bool false, .bool false, .slice (some ⟨g, o, none⟩) r.length c, .func (.func 45) #[] #[.pointer (some ⟨w2.heap.size, 0, none⟩)], .int .i64 x.i, .agg #[.int .i64 x.s.a.x, .int .i64 x.s.a.y, .int .i64 x.s.b.x, .int .i64 x.s.b.y], .slice (some ⟨g2, o2, none⟩) s.length c2, .func (.func 45) #[] #[.pointer (some ⟨W.heap.size, 0, none⟩)], .int .i64 y.i, .agg #[.int .i64 y.s.a.x, .int .i64 y.s.a.y, .int .i64 y.s.b.x, .int .i64 y.s.b.y], undef, undef, undef, undef, undef, undef, undef, undef, undef, undef, undef, undef, undef, undef, undef, undef, undef, undef, undef, undef, undef, undef, undef, undef, undef, undef, undef, undef, undef, undef, undef, undef, undef, undef, undef, undef, undef, undef, undef, undef, undef, undef, undef, undef], defers := [] })
      (fun y a'' _ X Y row hs hg hr => by
        obtain ⟨Bt, e1, e2, e3⟩ := hs
        exact ⟨Bt, e1, blk_own e2 hg (fun r e => (hr r e).2), e3⟩)
      ?assign2 ?body2 ?done2 ?stop2
    case assign2 =>
      rintro l2 pre' y W' K ⟨hrow, hI⟩ hK
      unfold encS
      have hbb : Below W'.heap.size W' (W'.alloc (.cells #[.int .i64 y.s.a.x, .int .i64 y.s.a.y, .int .i64 y.s.b.x, .int .i64 y.s.b.y] 36)) := (Below.refl _ _).alloc (Nat.le_refl _) _
      have HBB := hide hbb
      clear hbb
      gi_wp2
      exact hK _ _ ((keepsOthers_below HBB.out).from _) (Kr.below HBB.out) ⟨hrow, hI.lift HBB.out⟩ ⟨W'.heap.size, hI.kr.1, blkN _ _ _ rfl, rfl⟩
    case body2 =>
      rintro l2 pre' y a'' W' _ _ ⟨hrow, hI⟩ ⟨Bt, hBt, hT, rfl⟩ _
      obtain ⟨⟨s1, s2, s3, s4⟩, _⟩ := blk4 hI.a
      obtain ⟨⟨t1, t2, t3, t4⟩, _⟩ := blk4 hT
      have hrow' : badL x.s ((pre' ++ [y]).map Sd.v) = badM (meets x.s y.s) := by
        rw [List.map_append, badL_app, hrow]
        simp [badL, Sd.v]
      have HM := hide (meets_any x.s.a.x x.s.a.y x.s.b.x x.s.b.y y.s.a.x y.s.a.y y.s.b.x y.s.b.y W')
      have hst : (⟨⟨x.s.a.x, x.s.a.y⟩, ⟨x.s.b.x, x.s.b.y⟩⟩ : Sg) = x.s := rfl
      have hst2 : (⟨⟨y.s.a.x, y.s.a.y⟩, ⟨y.s.b.x, y.s.b.y⟩⟩ : Sg) = y.s := rfl
      rw [hst, hst2] at HM
      obtain ⟨m, hm⟩ : ∃ m, meets x.s y.s = m := ⟨_, rfl⟩
      rw [hm] at hrow' HM
      have HI := hide hI
      have HR2 := hide hrow'
      have hcase : m = 2 ∨ m = 3 ∨ m = 5 ∨ (m ≠ 2 ∧ m ≠ 3 ∧ m ≠ 5) := by omega
      clear hst hst2 hrow hrow' hall hm hI
      rcases hcase with rfl | rfl | rfl | ⟨m1, m2, m3⟩
      · gi_wp2_with (refine ⟨trivial, ?_⟩; gi_at_call 29; refine (CallsIn.inRound l2 (CallsIn.inRound l (callsIn_wide.2 HM.out))).mono ?_; rintro e w5 ⟨rfl, hb5⟩; have HB5 := hide hb5; have hI5 := HI.out.lift hb5; have c3 := hI5.b.res.cell; have c4 := hI5.b.res.frozen; have HI5 := hide hI5; clear hb5 hI5)
        exact ⟨((keepsOthers_below HB5.out).trans (KeepsOthers.setCell _ _ _)).from _, ⟨rfl, by rw [HR2.out]; rfl⟩, HI5.out.set (by omega) hg (by omega)⟩
      · gi_wp2_with (refine ⟨trivial, ?_⟩; gi_at_call 29; refine (CallsIn.inRound l2 (CallsIn.inRound l (callsIn_wide.2 HM.out))).mono ?_; rintro e w5 ⟨rfl, hb5⟩; have HB5 := hide hb5; have hI5 := HI.out.lift hb5; have c3 := hI5.b.res.cell; have c4 := hI5.b.res.frozen; have HI5 := hide hI5; clear hb5 hI5)
        exact ⟨((keepsOthers_below HB5.out).trans (KeepsOthers.setCell _ _ _)).from _, ⟨rfl, by rw [HR2.out]; rfl⟩, HI5.out.set (by omega) hg (by omega)⟩
      · gi_wp2_with (refine ⟨trivial, ?_⟩; gi_at_call 29; refine (CallsIn.inRound l2 (CallsIn.inRound l (callsIn_wide.2 HM.out))).mono ?_; rintro e w5 ⟨rfl, hb5⟩; have HB5 := hide hb5; have hI5 := HI.out.lift hb5; have c3 := hI5.b.res.cell; have c4 := hI5.b.res.frozen; have HI5 := hide hI5; clear hb5 hI5)
        exact ⟨((keepsOthers_below HB5.out).trans (KeepsOthers.setCell _ _ _)).from _, ⟨rfl, by rw [HR2.out]; rfl⟩, HI5.out.set (by omega) hg (by omega)⟩
      · have k1 : (m == 2) = false := by simpa using m1
        have k2 : (m == 3) = false := by simpa using m2
        have k3 : (m == 5) = false := by simpa using m3
        have hbm : badM m = false := by unfold badM; rw [k1, k2, k3]; rfl
        have HBM := hide hbm
        clear m1 m2 m3 hbm
        gi_wp2_with (refine ⟨trivial, ?_⟩; gi_at_call 29; refine (CallsIn.inRound l2 (CallsIn.inRound l (callsIn_wide.2 HM.out))).mono ?_; rintro e w5 ⟨rfl, hb5⟩; have HB5 := hide hb5; have hI5 := HI.out.lift hb5; have c3 := hI5.b.res.cell; have c4 := hI5.b.res.frozen; have HI5 := hide hI5; clear hb5 hI5)
        exact ⟨(keepsOthers_below HB5.out).from _, Kr.below HB5.out, by rw [HR2.out]; exact HBM.out, HI5.out⟩
    case done2 =>
      rintro ys W' hS ⟨hrow, hI⟩
      rw [hS] at hrow
      have hall' : badLL (sidesL s) ((pre ++ [x]).map Sd.v) = false := by
        rw [List.map_append, badLL_app, hall]
        simp [badLL, hrow, Sd.v]
      have HI := hide hI
      have HA := hide hall'
      clear hrow hall' hall hI
      gi_wp2
      exact ⟨HI.out.kf, HI.out.kr, HA.out, HI.out.b⟩
    case stop2 =>
      rintro cd pre' W' hS ⟨⟨rfl, hrow⟩, hI⟩
      have HI := hide hI
      have hall' : badLL (sidesL s) ((pre ++ [x]).map Sd.v) = true := by
        rw [List.map_append, badLL_app, hall]
        simp [badLL, Sd.v, badL_prefix _ _ _ hS hrow]
      have HA := hide hall'
      clear hrow hall' hall hI hS
      gi_wp2
      exact ⟨HI.out.kf, ⟨rfl, HA.out⟩, HI.out.b⟩
  case done =>
    rintro D xs W hD hS ⟨hall, hB⟩ hK
    rw [hS] at hall
    have HH := hide hB
    obtain ⟨a1, ha1⟩ : ∃ a, cnt r s 1 = a := ⟨_, rfl⟩
    obtain ⟨a2, ha2⟩ : ∃ a, cnt r s 0 = a := ⟨_, rfl⟩
    obtain ⟨a3, ha3⟩ : ∃ a, cnt r s (-1) = a := ⟨_, rfl⟩
    obtain ⟨e1, he1⟩ : ∃ a, cnt s r 1 = a := ⟨_, rfl⟩
    obtain ⟨e2, he2⟩ : ∃ a, cnt s r 0 = a := ⟨_, rfl⟩
    obtain ⟨e3, he3⟩ : ∃ a, cnt s r (-1) = a := ⟨_, rfl⟩
    rw [ha1, ha2, ha3] at HM1
    rw [he1, he2, he3] at HM2
    have hrel : relation r s = relC a1 a3 e1 e3 := by rw [HT.out, hall, ha1, ha3, he1, he3]; rfl
    have HREL := hide hrel
    have hm : ReK w D g2 o2 c2 s W0.heap.size W := ⟨hB, hK⟩
    have hDn : W0.heap.size ≤ D := hD
    clear hrel ha1 ha2 ha3 he1 he2 he3 hall hS hB hK HT
    gi_wp2
    refine wpIn_wide.2 ?_
    go_cut [9, 10] from 34 to 40 (fun s9 s10 wx => ∃ gA gB : Nat, s9 = .pointer (some ⟨gA, 0, none⟩) ∧ s10 = .pointer (some ⟨gB, 0, none⟩) ∧ ReK w D g2 o2 c2 s W0.heap.size wx ∧ wx.heap[gA]? = some (.cells #[.int .i64 a1, .int .i64 a2, .int .i64 a3] 49 (0, 0)) ∧ wx.heap[gB]? = some (.cells #[.int .i64 e1, .int .i64 e2, .int .i64 e3] 49 (0, 0)))
    case first =>
      refine wp_region_any (by kernel_rfl) ?_
      refine wpAny_inv (RRs w D g2 o2 c2 s W0.heap.size (.slice (some ⟨g, o, none⟩) r.length c) (.slice (some ⟨g2, o2, none⟩) s.length c2) a1 a2 a3 e1 e2 e3 [.slice (some ⟨g, o, none⟩) r.length c, .slice (some ⟨g2, o2, none⟩) s.length c2, undef, .pointer (some ⟨w.heap.size, 0, none⟩), .pointer (some ⟨w.heap.size + 1, 0, none⟩), undef, undef, undef, undef] [.slice (some ⟨g, o, none⟩) r.length c, .bool true, .bool false, .bool false, .slice (some ⟨g2, o2, none⟩) s.length c2, .bool true, .bool false, .bool false, .slice (some ⟨g, o, none⟩) r.length c, .func (.func 45) #[] #[.pointer (some ⟨w2.heap.size, 0, none⟩)], undef, undef, undef, undef, undef, undef, undef, undef, undef, undef, undef, undef, undef] [undef, undef, undef, undef, undef, undef, undef, undef, undef, undef, undef, undef, undef, undef, undef, undef, undef, undef, undef, undef, undef, undef, undef, undef, undef, undef, undef, undef, undef, undef, undef]) ?_ ?_ _ _ _ _ (by decide) ?_
      · intro listed a wx i hI hi
        obtain ⟨b0, b1, b2, b3, b4, b5, b6, b7, b8, b9, x34, x35, x36, x37, x38, x39, y1, y2, gA, gB, rfl, rfl, h⟩ := hI
        rw [mem_ready] at hi
        obtain ⟨hl, op, hop, hall⟩ := hi
        have hi10 : i < 10 := by
          rcases Nat.lt_or_ge i 10 with g | g
          · exact g
          · rw [Array.getElem?_eq_none (by simpa using g)] at hop; cases hop
        rcases (by omega : i = 0 ∨ i = 1 ∨ i = 2 ∨ i = 3 ∨ i = 4 ∨ i = 5 ∨ i = 6 ∨ i = 7 ∨ i = 8 ∨ i = 9) with rfl | rfl | rfl | rfl | rfl | rfl | rfl | rfl | rfl | rfl
        all_goals (simp only [List.getElem?_toArray, List.getElem?_cons_zero, List.getElem?_cons_succ, Option.some.injEq] at hop; subst hop)
        · refine wpOp_run rfl rfl fun K hK => ?_
          unfold frR
          simp only [List.cons_append, List.nil_append]
          go_simp
          refine hK _ _ ⟨true, b1, b2, b3, b4, b5, b6, b7, b8, b9, _, x35, x36, x37, x38, x39, y1, y2, gA, gB, rfl, rfl, ?_⟩
          exact ⟨h.ob, fun _ => rfl, h.l1, h.l2, h.l3, h.l4, h.l5, h.p1, h.p2, h.m1, h.m2, h.n12⟩
        · refine wpOp_run rfl rfl fun K hK => ?_
          have d1 := cell_of_row _ _ 0 _ _ _ h.ob.b.sb
          unfold frR
          simp only [List.cons_append, List.nil_append]
          go_simp
          refine hK _ _ ⟨b0, true, b2, b3, b4, b5, b6, b7, b8, b9, x34, _, x36, x37, x38, x39, y1, y2, gA, gB, rfl, rfl, ?_⟩
          exact ⟨h.ob, h.l0, fun _ => rfl, h.l2, h.l3, h.l4, h.l5, h.p1, h.p2, h.m1, h.m2, h.n12⟩
        · refine wpOp_run rfl rfl fun K hK => ?_
          have z0 : b0 = true := hall ⟨0, .data⟩ (by simp) rfl
          have z1 : b1 = true := hall ⟨1, .data⟩ (by simp) rfl
          have q1 := h.l0 z0
          have q2 := h.l1 z1
          subst q1 q2
          unfold frR
          simp only [List.cons_append, List.nil_append]
          go_simp
          refine (HM1.out _ h.ob.b.below).mono ?_
          rintro _ w7 ⟨rfl, hb7⟩
          refine hK _ _ ⟨b0, b1, true, b3, b4, b5, b6, b7, b8, b9, _, _, _, x37, x38, x39, y1, y2, gA, gB, rfl, rfl, ?_⟩
          have h7 := h.lift hb7
          exact ⟨h7.ob, h7.l0, h7.l1, fun _ => rfl, h7.l3, h7.l4, h7.l5, h7.p1, h7.p2, h7.m1, h7.m2, h7.n12⟩
        · refine wpOp_run rfl rfl fun K hK => ?_
          have d1 := cell_of_row _ _ 0 _ _ _ h.ob.b.sb
          unfold frR
          simp only [List.cons_append, List.nil_append]
          go_simp
          refine hK _ _ ⟨b0, b1, b2, true, b4, b5, b6, b7, b8, b9, x34, x35, x36, _, x38, x39, y1, y2, gA, gB, rfl, rfl, ?_⟩
          exact ⟨h.ob, h.l0, h.l1, h.l2, fun _ => rfl, h.l4, h.l5, h.p1, h.p2, h.m1, h.m2, h.n12⟩
        · refine wpOp_run rfl rfl fun K hK => ?_
          unfold frR
          simp only [List.cons_append, List.nil_append]
          go_simp
          refine hK _ _ ⟨b0, b1, b2, b3, true, b5, b6, b7, b8, b9, x34, x35, x36, x37, _, x39, y1, y2, gA, gB, rfl, rfl, ?_⟩
          exact ⟨h.ob, h.l0, h.l1, h.l2, h.l3, fun _ => rfl, h.l5, h.p1, h.p2, h.m1, h.m2, h.n12⟩
        · refine wpOp_run rfl rfl fun K hK => ?_
          have z0 : b3 = true := hall ⟨3, .data⟩ (by simp) rfl
          have z1 : b4 = true := hall ⟨4, .data⟩ (by simp) rfl
          have q1 := h.l3 z0
          have q2 := h.l4 z1
          subst q1 q2
          unfold frR
          simp only [List.cons_append, List.nil_append]
          go_simp
          refine (HM2.out _ h.ob.b.below).mono ?_
          rintro _ w7 ⟨rfl, hb7⟩
          refine hK _ _ ⟨b0, b1, b2, b3, b4, true, b6, b7, b8, b9, x34, x35, x36, _, _, _, y1, y2, gA, gB, rfl, rfl, ?_⟩
          have h7 := h.lift hb7
          exact ⟨h7.ob, h7.l0, h7.l1, h7.l2, h7.l3, h7.l4, fun _ => rfl, h7.p1, h7.p2, h7.m1, h7.m2, h7.n12⟩
        · refine wpOp_run rfl rfl fun K hK => ?_
          have hal : Below wx.heap.size wx (wx.alloc (.cells #[.int .i64 0, .int .i64 0, .int .i64 0] 49)) := (Below.refl _ _).alloc (Nat.le_refl _) _
          have HAL := hide hal
          clear hal
          unfold frR
          simp only [List.cons_append, List.nil_append]
          go_simp
          refine hK _ _ ⟨b0, b1, b2, b3, b4, b5, true, b7, b8, b9, x34, x35, x36, x37, x38, x39, _, y2, wx.heap.size, gB, rfl, rfl, ?_⟩
          have h7 := h.lift HAL.out
          have hsz := h.ob.b.below.size
          have hsz2 := h.ob.b.size
          exact ⟨h7.ob, h7.l0, h7.l1, h7.l2, h7.l3, h7.l4, h7.l5, fun _ => ⟨rfl, by omega, _, _, _, blkN _ _ _ rfl, fun e => by have := h.m1 e; simp at hl; rw [hl] at this; cases this⟩, h7.p2, fun _ => rfl, h7.m2, fun _ e => by have := (h.p2 e).2.2.lt; omega⟩
        · refine wpOp_run rfl rfl fun K hK => ?_
          have hal : Below wx.heap.size wx (wx.alloc (.cells #[.int .i64 0, .int .i64 0, .int .i64 0] 49)) := (Below.refl _ _).alloc (Nat.le_refl _) _
          have HAL := hide hal
          clear hal
          unfold frR
          simp only [List.cons_append, List.nil_append]
          go_simp
          refine hK _ _ ⟨b0, b1, b2, b3, b4, b5, b6, true, b8, b9, x34, x35, x36, x37, x38, x39, y1, _, gA, wx.heap.size, rfl, rfl, ?_⟩
          have h7 := h.lift HAL.out
          have hsz := h.ob.b.below.size
          have hsz2 := h.ob.b.size
          exact ⟨h7.ob, h7.l0, h7.l1, h7.l2, h7.l3, h7.l4, h7.l5, h7.p1, fun _ => ⟨rfl, by omega, _, _, _, blkN _ _ _ rfl, fun e => by have := h.m2 e; simp at hl; rw [hl] at this; cases this⟩, h7.m1, fun _ => rfl, fun e _ => by have := (h.p1 e).2.2.lt; omega⟩
        · refine wpOp_run rfl rfl fun K hK => ?_
          have z0 : b6 = true := hall ⟨6, .data⟩ (by simp) rfl
          have z1 : b2 = true := hall ⟨2, .data⟩ (by simp) rfl
          have q1 := h.l2 z1
          obtain ⟨q2, hge, cc, cd, ce, hblk, _⟩ := h.p1 z0
          subst q1 q2
          obtain ⟨⟨k1, k2, k3⟩, ⟨f1, f2, f3⟩⟩ := blk3 hblk
          have hne : gA ≠ D := by rintro rfl; have := h.ob.k; rw [hblk] at this; cases this
          have hst := blk3_set (blk3_set (blk3_set hblk 0 (.int .i64 a1)) 1 (.int .i64 a2)) 2 (.int .i64 a3)
          simp at hst
          have HST := hide hst
          have HBK := hide hblk
          clear hst hblk
          unfold frR
          simp only [List.cons_append, List.nil_append]
          go_simp
          refine hK _ _ ⟨b0, b1, b2, b3, b4, b5, b6, b7, true, b9, x34, x35, _, x37, x38, x39, _, y2, gA, gB, rfl, rfl, ?_⟩
          exact ⟨((h.ob.setN _ _ _ hge hne).setN _ _ _ hge hne).setN _ _ _ hge hne, h.l0, h.l1, h.l2, h.l3, h.l4, h.l5, fun _ => ⟨rfl, hge, _, _, _, HST.out, fun _ => ⟨rfl, rfl, rfl⟩⟩, fun e => ⟨(h.p2 e).1, (h.p2 e).2.1, (((h.p2 e).2.2.set _ _ _ ((h.n12 z0 e).symm)).set _ _ _ ((h.n12 z0 e).symm)).set _ _ _ ((h.n12 z0 e).symm)⟩, fun _ => z0, h.m2, h.n12⟩
        · refine wpOp_run rfl rfl fun K hK => ?_
          have z0 : b7 = true := hall ⟨7, .data⟩ (by simp) rfl
          have z1 : b5 = true := hall ⟨5, .data⟩ (by simp) rfl
          have q1 := h.l5 z1
          obtain ⟨q2, hge, cc, cd, ce, hblk, _⟩ := h.p2 z0
          subst q1 q2
          obtain ⟨⟨k1, k2, k3⟩, ⟨f1, f2, f3⟩⟩ := blk3 hblk
          have hne : gB ≠ D := by rintro rfl; have := h.ob.k; rw [hblk] at this; cases this
          have hst := blk3_set (blk3_set (blk3_set hblk 0 (.int .i64 e1)) 1 (.int .i64 e2)) 2 (.int .i64 e3)
          simp at hst
          have HST := hide hst
          have HBK := hide hblk
          clear hst hblk
          unfold frR
          simp only [List.cons_append, List.nil_append]
          go_simp
          refine hK _ _ ⟨b0, b1, b2, b3, b4, b5, b6, b7, b8, true, x34, x35, x36, x37, x38, _, y1, _, gA, gB, rfl, rfl, ?_⟩
          exact ⟨((h.ob.setN _ _ _ hge hne).setN _ _ _ hge hne).setN _ _ _ hge hne, h.l0, h.l1, h.l2, h.l3, h.l4, h.l5, fun e => ⟨(h.p1 e).1, (h.p1 e).2.1, (((h.p1 e).2.2.set _ _ _ (h.n12 e z0)).set _ _ _ (h.n12 e z0)).set _ _ _ (h.n12 e z0)⟩, fun _ => ⟨rfl, hge, _, _, _, HST.out, fun _ => ⟨rfl, rfl, rfl⟩⟩, h.m1, fun _ => z0, h.n12⟩
      · intro listed a wx hI hr
        obtain ⟨b0, b1, b2, b3, b4, b5, b6, b7, b8, b9, x34, x35, x36, x37, x38, x39, y1, y2, gA, gB, rfl, rfl, h⟩ := hI
        have t0 : b0 = true := by
          cases b0
          · refine absurd (?_ : 0 ∈ ([] : List Nat)) List.not_mem_nil
            rw [← hr, mem_ready]
            refine ⟨rfl, _, rfl, ?_⟩
            simp
          · rfl
        subst t0
        have t1 : b1 = true := by
          cases b1
          · refine absurd (?_ : 1 ∈ ([] : List Nat)) List.not_mem_nil
            rw [← hr, mem_ready]
            refine ⟨rfl, _, rfl, ?_⟩
            simp
          · rfl
        subst t1
        have t2 : b2 = true := by
          cases b2
          · refine absurd (?_ : 2 ∈ ([] : List Nat)) List.not_mem_nil
            rw [← hr, mem_ready]
            refine ⟨rfl, _, rfl, ?_⟩
            simp
          · rfl
        subst t2
        have t3 : b3 = true := by
          cases b3
          · refine absurd (?_ : 3 ∈ ([] : List Nat)) List.not_mem_nil
            rw [← hr, mem_ready]
            refine ⟨rfl, _, rfl, ?_⟩
            simp
          · rfl
        subst t3
        have t4 : b4 = true := by
          cases b4
          · refine absurd (?_ : 4 ∈ ([] : List Nat)) List.not_mem_nil
            rw [← hr, mem_ready]
            refine ⟨rfl, _, rfl, ?_⟩
            simp
          · rfl
        subst t4
        have t5 : b5 = true := by
          cases b5
          · refine absurd (?_ : 5 ∈ ([] : List Nat)) List.not_mem_nil
            rw [← hr, mem_ready]
            refine ⟨rfl, _, rfl, ?_⟩
            simp
          · rfl
        subst t5
        have t6 : b6 = true := by
          cases b6
          · refine absurd (?_ : 6 ∈ ([] : List Nat)) List.not_mem_nil
            rw [← hr, mem_ready]
            refine ⟨rfl, _, rfl, ?_⟩
            simp
          · rfl
        subst t6
        have t7 : b7 = true := by
          cases b7
          · refine absurd (?_ : 7 ∈ ([] : List Nat)) List.not_mem_nil
            rw [← hr, mem_ready]
            refine ⟨rfl, _, rfl, ?_⟩
            simp
          · rfl
        subst t7
        have t8 : b8 = true := by
          cases b8
          · refine absurd (?_ : 8 ∈ ([] : List Nat)) List.not_mem_nil
            rw [← hr, mem_ready]
            refine ⟨rfl, _, rfl, ?_⟩
            simp
          · rfl
        subst t8
        have t9 : b9 = true := by
          cases b9
          · refine absurd (?_ : 9 ∈ ([] : List Nat)) List.not_mem_nil
            rw [← hr, mem_ready]
            refine ⟨rfl, _, rfl, ?_⟩
            simp
          · rfl
        subst t9
        obtain ⟨q1, _, c1, c2, c3, hh1, v1⟩ := h.p1 rfl
        obtain ⟨rfl, rfl, rfl⟩ := v1 rfl
        obtain ⟨q2, _, c4, c5, c6, hh2, v2⟩ := h.p2 rfl
        obtain ⟨rfl, rfl, rfl⟩ := v2 rfl
        subst q1 q2
        have hx := h.ob
        have HX := hide (And.intro hx (And.intro hh1 hh2))
        clear h hh1 hh2 hr hx
        unfold frR
        simp only [List.cons_append, List.nil_append]
        go_wp2_with fail
        go_meet
        exact ⟨gA, gB, rfl, rfl, HX.out⟩
      · refine ⟨false, false, false, false, false, false, false, false, false, false, _, _, _, _, _, _, _, _, 0, 0, rfl, rfl, ⟨hm.lift ((Below.refl _ _).drew), fun e => absurd e (by decide), fun e => absurd e (by decide), fun e => absurd e (by decide), fun e => absurd e (by decide), fun e => absurd e (by decide), fun e => absurd e (by decide), fun e => absurd e (by decide), fun e => absurd e (by decide), fun e => absurd e (by decide), fun e => absurd e (by decide), fun e => absurd e (by decide)⟩⟩
    case rest =>
      obtain ⟨gA, gB, rfl, rfl, hk, hA, hB⟩ := hcut
      obtain ⟨⟨k1, k2, k3⟩, _⟩ := blk3 hA
      obtain ⟨⟨k4, k5, k6⟩, _⟩ := blk3 hB
      have c3 := hk.b.res.cell
      have c4 := hk.b.res.frozen
      obtain ⟨p1, h1⟩ : ∃ b, decide (0 < a1) = b := ⟨_, rfl⟩
      obtain ⟨p2, h2⟩ : ∃ b, decide (0 < a3) = b := ⟨_, rfl⟩
      obtain ⟨p3, h3⟩ : ∃ b, decide (0 < e1) = b := ⟨_, rfl⟩
      obtain ⟨p4, h4⟩ : ∃ b, decide (0 < e3) = b := ⟨_, rfl⟩
      have hrc : relC a1 a3 e1 e3 = if (p1 && p2) || (p3 && p4) then 0 else if p1 then 2 else if p3 then 3 else if p2 then 1 else 4 := by
        rw [← h1, ← h2, ← h3, ← h4]; unfold relC; simp
      have hrr := HREL.out.trans hrc
      have HRR := hide hrr
      have HK := hide hk
      clear hrc hrr HREL hA hB hm HM1 HM2 HH hk
      cases p1 <;> cases p2 <;> cases p3 <;> cases p4
      all_goals
        gi_wp2
        refine ⟨by simp, .inl ⟨_, _, rfl, run_takeDeferred (re_close HK.out _).1, ?_⟩⟩
        refine ⟨.int .i64 _, ?_, ret_int HRR.out.symm, (re_close HK.out _).2.1.trans (belowK_b (w := w) (Nat.le_refl _) _ D _ _ (by omega) (re_close HK.out _).1 rfl rfl)⟩
        have d0 := fun u : Int => (re_close HK.out u).2.2
        simp [results, Try.f18, go_sem, d0]
  case stop =>
    rintro D cd pre W hD hS ⟨⟨rfl, hall⟩, hB⟩ hK
    have hno : badLL (sidesL s) (sidesL r) = true := badLL_prefix _ _ _ hS hall
    have d0 := cell_kept hB.res.cell (grownBy_putObj' _ D (.deferred none)) (fun r e => by cases e; exact ⟨_, hK, rfl⟩)
    have HN := hide hno
    have HK := hide hK
    have hbel := hB.below
    clear hno hall hS hK
    gi_wp2
    refine ⟨by simp, .inl ⟨_, _, rfl, run_takeDeferred HK.out, ?_⟩⟩
    refine ⟨.int .i64 0, ?_, by rw [HT.out, HN.out]; rfl, hbel.trans (belowK_b (w := w) (Nat.le_refl _) _ D _ _ (by omega) HK.out rfl rfl)⟩
    simp [results, Try.f18, go_sem, d0]

theorem relation_any (r s : List Pt) (v v2 : Value) (w : World) (hv : SlP w v r) (hv2 : SlP w v2 s) (hl : r.length ≤ 100000) (hl2 : s.length ≤ 100000) :
    Calls Try.prog 18 #[v, v2] w fun e w' => e = .returned (.int .i64 (relation r s)) ∧ Below w.heap.size w w' := by
  cases h : (simple r && simple s) with
  | false => exact relation_no r s v v2 w hv hv2 hl hl2 h
  | true =>
    simp only [Bool.and_eq_true] at h
    exact relation_yes r s v v2 w hv hv2 hl hl2 h.1 h.2
end Go.Proofs.Ytmklnioedeailaa
