/-
  GeomOrients, walked: it returns true.
-/
import Derived.Test.YtepfhifogkopcaaGeoL3
import Derived.Test.YtepfhifogkopcaaPlainT
import Derived.BigQuiet
import Derived.Deep.DeepCutAuto
namespace Go.Proofs.Ytepfhifogkopcaa
open Go.RowKit Go.Proofs.PlGeom

/-- An invariant of what has come up, of the frame and of the world serves every order of a region that draws its order. -/
theorem wpAny_inv {P : Program} {md : Region.Mode} {ops : Array Oper} {Q : Exit → Act → World → Prop} (I : Array Bool → Act → World → Prop)
    (hstep : ∀ listed a w i, I listed a w → i ∈ Region.ready md ops listed → wpOp P ops Q i (fun a' w' => I (listed.setIfInBounds i true) a' w') a w)
    (hend : ∀ listed a w, I listed a w → Region.ready md ops listed = [] → Q .normal a w) :
    ∀ (fuel : Nat) (listed : Array Bool) (a : Act) (w : World), listed.toList.count false ≤ fuel → I listed a w → wpAny P md ops Q fuel listed a w := by
  have wpOp_mono : ∀ {i : Nat} {a : Act} {w : World} {K K' : Act → World → Prop}, (∀ a w, K a w → K' a w) → wpOp P ops Q i K a w → wpOp P ops Q i K' a w := by
    intro i a w K K' h hh
    unfold wpOp at *
    split
    · rename_i ho; simp only [ho] at hh; exact h _ _ hh
    · rename_i o ho
      simp only [ho] at hh
      split
      · rename_i hw
        simp only [hw, if_true] at hh
        rcases hh with hh | hh
        · exact .inl (Oper.wp_mono h hh)
        · exact .inr hh
      · rename_i hw
        simp only [hw] at hh
        exact h _ _ hh
  intro fuel
  induction fuel with
  | zero =>
    intro listed a w hc hI
    have hr : Region.ready md ops listed = [] := by
      rcases hl : Region.ready md ops listed with _ | ⟨i, l⟩
      · rfl
      · have hi : i ∈ Region.ready md ops listed := by rw [hl]; exact List.mem_cons_self
        have h0 := (mem_ready.1 hi).1
        have hlt : i < listed.size := by
          rcases Nat.lt_or_ge i listed.size with h | h
          · exact h
          · simp [h] at h0
        have hm : false ∈ listed.toList := by
          rw [Array.getD_eq_getD_getElem?, Array.getElem?_eq_getElem hlt, Option.getD_some] at h0
          rw [← h0]
          exact Array.getElem_mem_toList hlt
        have := List.count_pos_iff.2 hm
        omega
    exact ⟨hr, hend _ _ _ hI hr⟩
  | succ fuel ih =>
    intro listed a w hc hI
    refine ⟨hend _ _ _ hI, fun i hi => ?_⟩
    have h0 := (mem_ready.1 hi).1
    have hlt : i < listed.size := by
      rcases Nat.lt_or_ge i listed.size with h | h
      · exact h
      · simp [h] at h0
    rw [Array.getD_eq_getD_getElem?, Array.getElem?_eq_getElem hlt, Option.getD_some] at h0
    refine wpOp_mono (fun a' w' h => ih _ a' w' ?_ h) (hstep listed a w i hI hi)
    rw [Array.toList_setIfInBounds, List.count_set (by simpa using hlt)]
    simp only [Array.getElem_toList, h0]
    rw [if_pos (by decide), if_neg (by decide)]
    omega

/-- Four points in boxes. -/
structure OB (w wx : World) (ax ay bx bY cx cy px py : Int) : Prop where
  a : wx.heap[w.heap.size]? = some (.cells #[.int .i64 ax, .int .i64 ay] 23 (0, 0))
  b : wx.heap[w.heap.size + 1]? = some (.cells #[.int .i64 bx, .int .i64 bY] 23 (0, 0))
  c : wx.heap[w.heap.size + 2]? = some (.cells #[.int .i64 cx, .int .i64 cy] 23 (0, 0))
  d : wx.heap[w.heap.size + 3]? = some (.cells #[.int .i64 px, .int .i64 py] 23 (0, 0))
  below : Below w.heap.size w wx
theorem OB.lift {w wx wy : World} {ax ay bx bY cx cy px py : Int} (h : OB w wx ax ay bx bY cx cy px py) (hb : Below wx.heap.size wx wy) : OB w wy ax ay bx bY cx cy px py := ⟨blkB hb h.a, blkB hb h.b, blkB hb h.c, blkB hb h.d, bto h.below hb⟩
theorem OB.drew {w wx : World} {ax ay bx bY cx cy px py : Int} (h : OB w wx ax ay bx bY cx cy px py) : OB w wx.drew ax ay bx bY cx cy px py := h.lift ((Below.refl _ _).drew)
theorem OB.alloc {w wx : World} {ax ay bx bY cx cy px py : Int} (h : OB w wx ax ay bx bY cx cy px py) (o : Obj) : OB w (wx.alloc o) ax ay bx bY cx cy px py := h.lift ((Below.refl _ _).alloc (Nat.le_refl _) _)
theorem OB.lt {w wx : World} {ax ay bx bY cx cy px py : Int} (h : OB w wx ax ay bx bY cx cy px py) : w.heap.size + 3 < wx.heap.size := lt_of_block h.d
theorem OB.set {w wx : World} {ax ay bx bY cx cy px py : Int} (h : OB w wx ax ay bx bY cx cy px py) (g i : Nat) (u : Value) (hg : w.heap.size + 4 ≤ g) : OB w (wx.setCell ⟨g, i, none⟩ u) ax ay bx bY cx cy px py :=
  ⟨blkS i u h.a (by omega), blkS i u h.b (by omega), blkS i u h.c (by omega), blkS i u h.d (by omega), h.below.setCell (by simp; omega) u⟩
theorem OB.s {w wx : World} {ax ay bx bY cx cy px py : Int} (h : OB w wx ax ay bx bY cx cy px py) : wx.cell? ⟨w.heap.size, 0, none⟩ = some (.int .i64 ax) ∧ wx.cell? ⟨w.heap.size, 1, none⟩ = some (.int .i64 ay) ∧ wx.cell? ⟨w.heap.size + 1, 0, none⟩ = some (.int .i64 bx) ∧ wx.cell? ⟨w.heap.size + 1, 1, none⟩ = some (.int .i64 bY) ∧ wx.cell? ⟨w.heap.size + 2, 0, none⟩ = some (.int .i64 cx) ∧ wx.cell? ⟨w.heap.size + 2, 1, none⟩ = some (.int .i64 cy) ∧ wx.cell? ⟨w.heap.size + 3, 0, none⟩ = some (.int .i64 px) ∧ wx.cell? ⟨w.heap.size + 3, 1, none⟩ = some (.int .i64 py) :=
  ⟨(blk2 h.a).1.1, (blk2 h.a).1.2, (blk2 h.b).1.1, (blk2 h.b).1.2, (blk2 h.c).1.1, (blk2 h.c).1.2, (blk2 h.d).1.1, (blk2 h.d).1.2⟩

theorem lnear3 (ax ay bx bY cx cy : Int) (b : Bool) (hb : nearL [⟨ax, ay⟩, ⟨bx, bY⟩, ⟨cx, cy⟩] = b) (w : World) (t : TypeId) (g c : Nat) (hg : w.heap.size = g) :
    Calls Try.prog 25 #[.slice (some ⟨g, 0, none⟩) 3 c] (w.alloc (.cells #[.int .i64 ax, .int .i64 ay, .int .i64 bx, .int .i64 bY, .int .i64 cx, .int .i64 cy] t)) fun e w' => e = .returned (.bool b) ∧ Below w.heap.size w w' :=
  lnear_new [⟨ax, ay⟩, ⟨bx, bY⟩, ⟨cx, cy⟩] [.int .i64 ax, .int .i64 ay, .int .i64 bx, .int .i64 bY, .int .i64 cx, .int .i64 cy] t w g c hg rfl (by simp) b hb

theorem lnear3d (ax ay bx bY cx cy : Int) (b : Bool) (hb : nearL [⟨ax, ay⟩, ⟨bx, bY⟩, ⟨cx, cy⟩] = b) (w : World) (t : TypeId) (g c : Nat) (hg : w.heap.size = g) :
    Calls Try.prog 25 #[.slice (some ⟨g, 0, none⟩) 3 c] (w.alloc (.cells #[.int .i64 ax, .int .i64 ay, .int .i64 bx, .int .i64 bY, .int .i64 cx, .int .i64 cy] t)).drew fun e w' => e = .returned (.bool b) ∧ Below w.heap.size w w' :=
  (lnear3 ax ay bx bY cx cy b hb w.drew t g c hg).mono fun _ _ ⟨he, h⟩ => ⟨he, ((Below.refl _ _).drew).trans h⟩

/-- One operation of a region, what follows behind a variable. -/
theorem wpOp_run {P : Program} {ops : Array Oper} {Q : Exit → Act → World → Prop} {i : Nat} {o : Oper} {K' : Act → World → Prop} {a : Act} {w : World} (ho : ops[i]? = some o) (hg : o.guard = none)
    (h : ∀ K : Act → World → Prop, (∀ a w, K' a w → K a w) → o.wp P a w K Q) : wpOp P ops Q i K' a w := by
  unfold wpOp
  simp only [ho]
  rw [if_pos (by simp [Region.wanted, hg])]
  exact .inl (h K' fun _ _ h => h)

/-- An operation that may come up now is taken first; its slot by its number. -/
theorem takeD {P : Program} {ops : Array Oper} {Q : Exit → Act → World → Prop} {md : Region.Mode} {S : World → Prop} {i d : Nat} {oi : Oper} {v : Value} {fuel : Nat} {listed : Array Bool} {a : Act} {w : World} (hi : ops[i]? = some oi) (hd : oi.dst = some d)
    (hs : Region.noSelect ops = true) (hf : Region.free md ops listed i = true) (hr : (Region.ready md ops listed).contains i = true)
    (hQ : ∀ c a w, Q (.panic c) (a.put (some d) v) w → Q (.panic c) a w) (hy : YieldsIf P ops S oi v a) (hS : S w)
    (h : wpAnyH P md ops Q S fuel (listed.setIfInBounds i true) (a.put (some d) v) w) : wpAnyH P md ops Q S (fuel + 1) listed a w :=
  wpAnyH_take hi hs hf hr (by rw [hd]; exact hQ) hy hS (by rw [hd]; exact h)

/-- A point in new memory: moved, once it has been stored. -/
def NewPt (wx : World) (g : Nat) (b : Bool) (u v : Int) : Prop := ∃ c d : Value, wx.heap[g]? = some (.cells #[c, d] 23 (0, 0)) ∧ (b = true → c = .int .i64 u ∧ d = .int .i64 v)
theorem NewPt.lift {wx wy : World} {g : Nat} {b : Bool} {u v : Int} (h : NewPt wx g b u v) (hb : Below wx.heap.size wx wy) : NewPt wy g b u v := by
  obtain ⟨c, d, h1, h2⟩ := h
  exact ⟨c, d, blkB hb h1, h2⟩
theorem NewPt.set {wx : World} {g : Nat} {b : Bool} {u v : Int} (h : NewPt wx g b u v) (g' i : Nat) (x : Value) (hne : g ≠ g') : NewPt (wx.setCell ⟨g', i, none⟩ x) g b u v := by
  obtain ⟨c, d, h1, h2⟩ := h
  exact ⟨c, d, blkS i x h1 hne, h2⟩
theorem NewPt.lt {wx : World} {g : Nat} {b : Bool} {u v : Int} (h : NewPt wx g b u v) : g < wx.heap.size := by
  obtain ⟨c, d, h1, h2⟩ := h
  exact lt_of_block h1
/-- What has come up of the region, and what it has left. -/
structure RI (w wx : World) (ax ay bx bY cx cy px py : Int) (b0 b1 b2 b3 b4 b5 b6 b7 b8 b9 b10 b11 b12 b13 b14 : Bool) (x65 x66 x67 x68 x69 x70 x71 x72 x73 y1 y2 y3 : Value) (g1 g2 g3 : Nat) : Prop where
  ob : OB w wx ax ay bx bY cx cy px py
  l0 : b0 = true → x65 = .agg #[.int .i64 (ax), .int .i64 (ay)]
  l1 : b1 = true → x66 = .agg #[.int .i64 (px), .int .i64 (py)]
  l2 : b2 = true → x67 = .agg #[.int .i64 (ax + px), .int .i64 (ay + py)]
  l3 : b3 = true → x68 = .agg #[.int .i64 (bx), .int .i64 (bY)]
  l4 : b4 = true → x69 = .agg #[.int .i64 (px), .int .i64 (py)]
  l5 : b5 = true → x70 = .agg #[.int .i64 (bx + px), .int .i64 (bY + py)]
  l6 : b6 = true → x71 = .agg #[.int .i64 (cx), .int .i64 (cy)]
  l7 : b7 = true → x72 = .agg #[.int .i64 (px), .int .i64 (py)]
  l8 : b8 = true → x73 = .agg #[.int .i64 (cx + px), .int .i64 (cy + py)]
  p1 : b9 = true → y1 = .pointer (some ⟨g1, 0, none⟩) ∧ w.heap.size + 4 ≤ g1 ∧ NewPt wx g1 b12 (ax + px) (ay + py)
  p2 : b10 = true → y2 = .pointer (some ⟨g2, 0, none⟩) ∧ w.heap.size + 4 ≤ g2 ∧ NewPt wx g2 b13 (bx + px) (bY + py)
  p3 : b11 = true → y3 = .pointer (some ⟨g3, 0, none⟩) ∧ w.heap.size + 4 ≤ g3 ∧ NewPt wx g3 b14 (cx + px) (cy + py)
  m1 : b12 = true → b9 = true
  m2 : b13 = true → b10 = true
  m3 : b14 = true → b11 = true
  n12 : b9 = true → b10 = true → g1 ≠ g2
  n13 : b9 = true → b11 = true → g1 ≠ g3
  n23 : b10 = true → b11 = true → g2 ≠ g3
theorem RI.lift {w wx : World} {ax ay bx bY cx cy px py : Int} {b0 b1 b2 b3 b4 b5 b6 b7 b8 b9 b10 b11 b12 b13 b14 : Bool} {x65 x66 x67 x68 x69 x70 x71 x72 x73 y1 y2 y3 : Value} {g1 g2 g3 : Nat} {wy : World} (h : RI w wx ax ay bx bY cx cy px py b0 b1 b2 b3 b4 b5 b6 b7 b8 b9 b10 b11 b12 b13 b14 x65 x66 x67 x68 x69 x70 x71 x72 x73 y1 y2 y3 g1 g2 g3) (hb : Below wx.heap.size wx wy) : RI w wy ax ay bx bY cx cy px py b0 b1 b2 b3 b4 b5 b6 b7 b8 b9 b10 b11 b12 b13 b14 x65 x66 x67 x68 x69 x70 x71 x72 x73 y1 y2 y3 g1 g2 g3 :=
  ⟨h.ob.lift hb, h.l0, h.l1, h.l2, h.l3, h.l4, h.l5, h.l6, h.l7, h.l8, fun e => ⟨(h.p1 e).1, (h.p1 e).2.1, (h.p1 e).2.2.lift hb⟩, fun e => ⟨(h.p2 e).1, (h.p2 e).2.1, (h.p2 e).2.2.lift hb⟩, fun e => ⟨(h.p3 e).1, (h.p3 e).2.1, (h.p3 e).2.2.lift hb⟩, h.m1, h.m2, h.m3, h.n12, h.n13, h.n23⟩
def fr (pre mid post : List Value) (x65 x66 x67 x68 x69 x70 x71 x72 x73 y1 y2 y3 : Value) : Act := ⟨(pre ++ [y1, y2, y3] ++ mid ++ [x65, x66, x67, x68, x69, x70, x71, x72, x73] ++ post).toArray, []⟩
def RIs (w : World) (ax ay bx bY cx cy px py : Int) (pre mid post : List Value) (listed : Array Bool) (a : Act) (wx : World) : Prop :=
  ∃ (b0 b1 b2 b3 b4 b5 b6 b7 b8 b9 b10 b11 b12 b13 b14 : Bool) (x65 x66 x67 x68 x69 x70 x71 x72 x73 y1 y2 y3 : Value) (g1 g2 g3 : Nat), listed = #[b0, b1, b2, b3, b4, b5, b6, b7, b8, b9, b10, b11, b12, b13, b14] ∧ a = fr pre mid post x65 x66 x67 x68 x69 x70 x71 x72 x73 y1 y2 y3 ∧ RI w wx ax ay bx bY cx cy px py b0 b1 b2 b3 b4 b5 b6 b7 b8 b9 b10 b11 b12 b13 b14 x65 x66 x67 x68 x69 x70 x71 x72 x73 y1 y2 y3 g1 g2 g3
/-- Three moved points in new memory. -/
structure XB (w wx : World) (g1 g2 g3 : Nat) (ax ay bx bY cx cy px py : Int) : Prop where
  ob : OB w wx ax ay bx bY cx cy px py
  a : wx.heap[g1]? = some (.cells #[.int .i64 (ax + px), .int .i64 (ay + py)] 23 (0, 0))
  b : wx.heap[g2]? = some (.cells #[.int .i64 (bx + px), .int .i64 (bY + py)] 23 (0, 0))
  c : wx.heap[g3]? = some (.cells #[.int .i64 (cx + px), .int .i64 (cy + py)] 23 (0, 0))
theorem XB.s {w wx : World} {g1 g2 g3 : Nat} {ax ay bx bY cx cy px py : Int} (h : XB w wx g1 g2 g3 ax ay bx bY cx cy px py) : XB w wx g1 g2 g3 ax ay bx bY cx cy px py ∧ wx.cell? ⟨g1, 0, none⟩ = some (.int .i64 (ax + px)) ∧ wx.cell? ⟨g1, 1, none⟩ = some (.int .i64 (ay + py)) ∧ wx.cell? ⟨g2, 0, none⟩ = some (.int .i64 (bx + px)) ∧ wx.cell? ⟨g2, 1, none⟩ = some (.int .i64 (bY + py)) ∧ wx.cell? ⟨g3, 0, none⟩ = some (.int .i64 (cx + px)) ∧ wx.cell? ⟨g3, 1, none⟩ = some (.int .i64 (cy + py)) ∧ wx.cell? ⟨w.heap.size, 0, none⟩ = some (.int .i64 (ax)) ∧ wx.cell? ⟨w.heap.size, 1, none⟩ = some (.int .i64 (ay)) ∧ wx.cell? ⟨w.heap.size + 1, 0, none⟩ = some (.int .i64 (bx)) ∧ wx.cell? ⟨w.heap.size + 1, 1, none⟩ = some (.int .i64 (bY)) :=
  ⟨h, (blk2 h.a).1.1, (blk2 h.a).1.2, (blk2 h.b).1.1, (blk2 h.b).1.2, (blk2 h.c).1.1, (blk2 h.c).1.2, (blk2 h.ob.a).1.1, (blk2 h.ob.a).1.2, (blk2 h.ob.b).1.1, (blk2 h.ob.b).1.2⟩
theorem XB.drew {w wx : World} {g1 g2 g3 : Nat} {ax ay bx bY cx cy px py : Int} (h : XB w wx g1 g2 g3 ax ay bx bY cx cy px py) : XB w wx.drew g1 g2 g3 ax ay bx bY cx cy px py := ⟨h.ob.drew, h.a, h.b, h.c⟩
theorem XB.alloc {w wx : World} {g1 g2 g3 : Nat} {ax ay bx bY cx cy px py : Int} (h : XB w wx g1 g2 g3 ax ay bx bY cx cy px py) (o : Obj) : XB w (wx.alloc o) g1 g2 g3 ax ay bx bY cx cy px py := ⟨h.ob.alloc o, blkO o h.a, blkO o h.b, blkO o h.c⟩
theorem XB.lift {w wx wy : World} {g1 g2 g3 : Nat} {ax ay bx bY cx cy px py : Int} (h : XB w wx g1 g2 g3 ax ay bx bY cx cy px py) (hb : Below wx.heap.size wx wy) : XB w wy g1 g2 g3 ax ay bx bY cx cy px py := ⟨h.ob.lift hb, blkB hb h.a, blkB hb h.b, blkB hb h.c⟩

set_option maxHeartbeats 400000 in
theorem moved_any (a b c d : Int) (h1 : -1000000000000000000 ≤ a + c) (h2 : a + c ≤ 1000000000000000000) (h3 : -1000000000000000000 ≤ b + d) (h4 : b + d ≤ 1000000000000000000) (w : World) :
    Calls Try.prog 26 #[.agg #[.int .i64 a, .int .i64 b], .agg #[.int .i64 c, .int .i64 d]] w fun e w' => e = .returned (.agg #[.int .i64 (a + c), .int .i64 (b + d)]) ∧ Below w.heap.size w w' := by
  go_enter Try.func26, Try.ntmps26
  go_wp2
  exact bodyPost_ret (v := .agg #[.int .i64 (a + c), .int .i64 (b + d)]) (by simp [results, Try.results26, go_sem]) rfl ⟨rfl, (((Below.refl _ _).alloc (Nat.le_refl _) _).alloc (by simp) _).alloc (by simp; omega) _⟩

set_option maxRecDepth 100000 in
set_option maxHeartbeats 8000000 in
theorem orients_walk (ax ay bx bY cx cy px py : Int) (w : World) : Calls Try.prog 4 #[.agg #[.int .i64 (ax), .int .i64 (ay)], .agg #[.int .i64 (bx), .int .i64 (bY)], .agg #[.int .i64 (cx), .int .i64 (cy)], .agg #[.int .i64 (px), .int .i64 (py)]] w fun e w' => e = .returned (.bool true) ∧ Below w.heap.size w w' := by
  cases hn : nearL [⟨ax, ay⟩, ⟨bx, bY⟩, ⟨cx, cy⟩, ⟨px, py⟩] with
  | false =>
    have HN := hide (lnear4 ax ay bx bY cx cy px py false hn)
    clear hn
    go_enter Try.func4, Try.ntmps4
    go_wp2_with fail
    refine (head_any _).mono ?_
    rintro _ w1 ⟨rfl, b1⟩
    have hm : OB w w1 ax ay bx bY cx cy px py := ⟨blkB b1 (blkO _ (blkO _ (blkO _ (blkN _ _ _ rfl)))), blkB b1 (blkO _ (blkO _ (blkN _ _ _ (by simp)))), blkB b1 (blkO _ (blkN _ _ _ (by simp))), blkB b1 (blkN _ _ _ (by simp)), bto (((((Below.refl _ _).alloc (Nat.le_refl _) _).alloc (by simp) _).alloc (by simp; omega) _).alloc (by simp; omega) _) b1⟩
    clear b1
    obtain ⟨d1, d2, d3, d4, d5, d6, d7, d8⟩ := hm.s
    go_wp2_with fail
    refine (HN.out _ _ _ _ (by simp)).mono ?_
    rintro _ w2 ⟨rfl, b2⟩
    have hm2 := hm.lift b2
    clear d1 d2 d3 d4 d5 d6 d7 d8
    clear b2
    obtain ⟨d1, d2, d3, d4, d5, d6, d7, d8⟩ := hm2.s
    go_wp2_with fail
    go_ret
    exact ⟨rfl, hm2.below⟩
  | true =>
    have HN := hide (lnear4 ax ay bx bY cx cy px py true hn)
    have hn3 : nearL [⟨ax, ay⟩, ⟨bx, bY⟩, ⟨cx, cy⟩] = true := by
      simp only [nearL, Bool.and_true, Bool.and_eq_true] at hn ⊢
      exact ⟨hn.1, hn.2.1, hn.2.2.1⟩
    have hom := orient_moved ⟨ax, ay⟩ ⟨bx, bY⟩ ⟨cx, cy⟩ ⟨px, py⟩ hn3
    have hdm := dist_moved ⟨ax, ay⟩ ⟨bx, bY⟩ ⟨px, py⟩ (by
      simp only [nearL, Bool.and_true, Bool.and_eq_true] at hn3 ⊢
      exact ⟨hn3.1, hn3.2.1⟩)
    simp only at hom hdm
    have HG := hide (orient_any (ax + px) (ay + py) (bx + px) (bY + py) (cx + px) (cy + py))
    have HD1 := hide (distance_any (ax + px) (ay + py) (bx + px) (bY + py))
    have HD2 := hide (distance_any ax ay bx bY)
    obtain ⟨nn, hnn⟩ : ∃ nn, nearL [⟨ax + px, ay + py⟩, ⟨bx + px, bY + py⟩, ⟨cx + px, cy + py⟩] = nn := ⟨_, rfl⟩
    have HN3 := hide (lnear3d (ax + px) (ay + py) (bx + px) (bY + py) (cx + px) (cy + py) nn hnn)
    have hdm2 : nn = true → dist ⟨ax + px, ay + py⟩ ⟨bx + px, bY + py⟩ = dist ⟨ax, ay⟩ ⟨bx, bY⟩ := fun e => hdm (by
      rw [← hnn] at e
      simp only [nearL, Bool.and_true, Bool.and_eq_true] at e ⊢
      exact ⟨e.1, e.2.1⟩)
    rw [hnn] at hom
    clear hdm hnn hn3
    have HOM := hide hom
    have HDM := hide hdm2
    clear hom hdm2
    simp only [nearL, Bool.and_true, Bool.and_eq_true, nearB_iff] at hn
    obtain ⟨⟨i1, i2, i3, i4⟩, ⟨j1, j2, j3, j4⟩, ⟨k1, k2, k3, k4⟩, l1, l2, l3, l4⟩ := hn
    have H1 := hide (orient_any ax ay bx bY cx cy)
    have H2 := hide (orient_any bx bY ax ay cx cy)
    have H3 := hide (orient_any ax ay cx cy bx bY)
    have H4 := hide (orient_any bx bY cx cy ax ay)
    have H5 := hide (orient_any ax ay ax ay cx cy)
    have H6 := hide (orient_any ax ay bx bY bx bY)
    rw [orient_back] at H2
    rw [orient_flip] at H3
    rw [orient_turn] at H4
    rw [orient_pt] at H5
    rw [orient_pt2] at H6
    have M1 := hide (moved_any ax ay px py (by omega) (by omega) (by omega) (by omega))
    have M2 := hide (moved_any bx bY px py (by omega) (by omega) (by omega) (by omega))
    have M3 := hide (moved_any cx cy px py (by omega) (by omega) (by omega) (by omega))
    have hob := orient_bd ⟨ax, ay⟩ ⟨bx, bY⟩ ⟨cx, cy⟩
    obtain ⟨ob1, ob2⟩ := hob
    generalize orient ⟨ax, ay⟩ ⟨bx, bY⟩ ⟨cx, cy⟩ = o at *
    generalize orient ⟨ax + px, ay + py⟩ ⟨bx + px, bY + py⟩ ⟨cx + px, cy + py⟩ = o2 at *
    generalize dist ⟨ax, ay⟩ ⟨bx, bY⟩ = D at *
    generalize dist ⟨ax + px, ay + py⟩ ⟨bx + px, bY + py⟩ = D2 at *
    clear i1 i2 i3 i4 j1 j2 j3 j4 k1 k2 k3 k4 l1 l2 l3 l4
    go_enter Try.func4, Try.ntmps4
    go_wp2_with fail
    refine (head_any _).mono ?_
    rintro _ w1 ⟨rfl, b1⟩
    have hm : OB w w1 ax ay bx bY cx cy px py := ⟨blkB b1 (blkO _ (blkO _ (blkO _ (blkN _ _ _ rfl)))), blkB b1 (blkO _ (blkO _ (blkN _ _ _ (by simp)))), blkB b1 (blkO _ (blkN _ _ _ (by simp))), blkB b1 (blkN _ _ _ (by simp)), bto (((((Below.refl _ _).alloc (Nat.le_refl _) _).alloc (by simp) _).alloc (by simp; omega) _).alloc (by simp; omega) _) b1⟩
    clear b1
    obtain ⟨d1, d2, d3, d4, d5, d6, d7, d8⟩ := hm.s
    go_wp2_with fail
    refine (HN.out _ _ _ _ (by simp)).mono ?_
    rintro _ w2 ⟨rfl, b2⟩
    have hm2 := hm.lift b2
    clear d1 d2 d3 d4 d5 d6 d7 d8
    clear b2
    obtain ⟨d1, d2, d3, d4, d5, d6, d7, d8⟩ := hm2.s
    go_wp2_with fail
    refine (H1.out _).mono ?_
    rintro _ w3 ⟨rfl, b3⟩
    have hm3 := hm2.lift b3
    clear d1 d2 d3 d4 d5 d6 d7 d8
    clear b3
    obtain ⟨d1, d2, d3, d4, d5, d6, d7, d8⟩ := hm3.s
    go_upto_region 5 with (fail)
    go_cut [64] (fun s wx => s = .bool false ∧ OB w wx ax ay bx bY cx cy px py)
    case first =>
      go_wp2_with fail
      refine (H2.out _).mono ?_
      rintro _ w4 ⟨rfl, b4⟩
      have hm4 := hm3.lift b4
      clear d1 d2 d3 d4 d5 d6 d7 d8
      clear b4
      obtain ⟨d1, d2, d3, d4, d5, d6, d7, d8⟩ := hm4.s
      go_wp2_with fail
      refine (H3.out _).mono ?_
      rintro _ w5 ⟨rfl, b5⟩
      have hm5 := hm4.lift b5
      clear d1 d2 d3 d4 d5 d6 d7 d8
      clear b5
      obtain ⟨d1, d2, d3, d4, d5, d6, d7, d8⟩ := hm5.s
      go_wp2_with fail
      refine (H4.out _).mono ?_
      rintro _ w6 ⟨rfl, b6⟩
      have hm6 := hm5.lift b6
      clear d1 d2 d3 d4 d5 d6 d7 d8
      clear b6
      obtain ⟨d1, d2, d3, d4, d5, d6, d7, d8⟩ := hm6.s
      go_wp2_with fail
      refine (H5.out _).mono ?_
      rintro _ w7 ⟨rfl, b7⟩
      have hm7 := hm6.lift b7
      clear d1 d2 d3 d4 d5 d6 d7 d8
      clear b7
      obtain ⟨d1, d2, d3, d4, d5, d6, d7, d8⟩ := hm7.s
      go_wp2_with fail
      refine (H6.out _).mono ?_
      rintro _ w8 ⟨rfl, b8⟩
      have hm8 := hm7.lift b8
      clear d1 d2 d3 d4 d5 d6 d7 d8
      clear b8
      obtain ⟨d1, d2, d3, d4, d5, d6, d7, d8⟩ := hm8.s
      go_wp2_with fail
      go_meet
      exact ⟨rfl, hm8⟩
    case rest =>
      clear hm hm2 hm3 d1 d2 d3 d4 d5 d6 d7 d8 H1 H2 H3 H4 H5 H6
      obtain ⟨rfl, hm⟩ := hcut
      go_upto_region 7 with (fail)
      go_cut [11, 12, 13] (fun s11 s12 s13 wx => ∃ g1 g2 g3 : Nat, s11 = .pointer (some ⟨g1, 0, none⟩) ∧ s12 = .pointer (some ⟨g2, 0, none⟩) ∧ s13 = .pointer (some ⟨g3, 0, none⟩) ∧ XB w wx g1 g2 g3 ax ay bx bY cx cy px py)
      case first =>
        refine wp_region_any (by kernel_rfl) ?_
        refine wpAny_inv (RIs w ax ay bx bY cx cy px py [.agg #[.int .i64 ax, .int .i64 ay], .agg #[.int .i64 bx, .int .i64 bY], .agg #[.int .i64 cx, .int .i64 cy], .agg #[.int .i64 px, .int .i64 py], .pointer (some ⟨w.heap.size, 0, none⟩), .pointer (some ⟨w.heap.size + 1, 0, none⟩), .pointer (some ⟨w.heap.size + 1 + 1, 0, none⟩), .pointer (some ⟨w.heap.size + 1 + 1 + 1, 0, none⟩), .bool false, .bool true, .int .i64 o] [u14, u15, u16, u17, u18, u19, u20, u21, u22, u23, u24, u25, u26, u27, u28, u29, u30, u31, u32, u33, u34, u35, u36, u37, u38, u39, u40, u41, u42, u43, u44, u45, u46, u47, u48, u49, u50, u51, u52, u53, u54, u55, u56, u57, u58, u59, u60, u61, u62, u63, .bool false] [u74, u75, u76, u77, u78, u79, u80, u81, u82, u83, u84, u85, u86, u87, u88, u89, u90, u91, u92, u93, u94, u95, u96, u97, u98, u99]) ?_ ?_ _ _ _ _ (by decide) ?_
        · intro listed a wx i hI hi
          obtain ⟨b0, b1, b2, b3, b4, b5, b6, b7, b8, b9, b10, b11, b12, b13, b14, x65, x66, x67, x68, x69, x70, x71, x72, x73, y1, y2, y3, g1, g2, g3, rfl, rfl, h⟩ := hI
          rw [mem_ready] at hi
          obtain ⟨hl, op, hop, hall⟩ := hi
          have hi15 : i < 15 := by
            rcases Nat.lt_or_ge i 15 with g | g
            · exact g
            · rw [Array.getElem?_eq_none (by simpa using g)] at hop; cases hop
          rcases (by omega : i = 0 ∨ i = 1 ∨ i = 2 ∨ i = 3 ∨ i = 4 ∨ i = 5 ∨ i = 6 ∨ i = 7 ∨ i = 8 ∨ i = 9 ∨ i = 10 ∨ i = 11 ∨ i = 12 ∨ i = 13 ∨ i = 14) with rfl | rfl | rfl | rfl | rfl | rfl | rfl | rfl | rfl | rfl | rfl | rfl | rfl | rfl | rfl
          all_goals (simp only [List.getElem?_toArray, List.getElem?_cons_zero, List.getElem?_cons_succ, Option.some.injEq] at hop; subst hop)
          · refine wpOp_run rfl rfl fun K hK => ?_
            obtain ⟨d1, d2, d3, d4, d5, d6, d7, d8⟩ := h.ob.s
            unfold fr
            simp only [List.cons_append, List.nil_append]
            go_simp
            refine hK _ _ ⟨true, b1, b2, b3, b4, b5, b6, b7, b8, b9, b10, b11, b12, b13, b14, _, x66, x67, x68, x69, x70, x71, x72, x73, y1, y2, y3, g1, g2, g3, rfl, rfl, ?_⟩
            exact ⟨h.ob, fun _ => rfl, h.l1, h.l2, h.l3, h.l4, h.l5, h.l6, h.l7, h.l8, h.p1, h.p2, h.p3, h.m1, h.m2, h.m3, h.n12, h.n13, h.n23⟩
          · refine wpOp_run rfl rfl fun K hK => ?_
            obtain ⟨d1, d2, d3, d4, d5, d6, d7, d8⟩ := h.ob.s
            unfold fr
            simp only [List.cons_append, List.nil_append]
            go_simp
            refine hK _ _ ⟨b0, true, b2, b3, b4, b5, b6, b7, b8, b9, b10, b11, b12, b13, b14, x65, _, x67, x68, x69, x70, x71, x72, x73, y1, y2, y3, g1, g2, g3, rfl, rfl, ?_⟩
            exact ⟨h.ob, h.l0, fun _ => rfl, h.l2, h.l3, h.l4, h.l5, h.l6, h.l7, h.l8, h.p1, h.p2, h.p3, h.m1, h.m2, h.m3, h.n12, h.n13, h.n23⟩
          · refine wpOp_run rfl rfl fun K hK => ?_
            have e0 : b0 = true := hall ⟨0, .data⟩ (by simp) rfl
            have e1 : b1 = true := hall ⟨1, .data⟩ (by simp) rfl
            have q1 := h.l0 e0
            have q2 := h.l1 e1
            subst q1 q2
            unfold fr
            simp only [List.cons_append, List.nil_append]
            go_simp
            refine (M1.out _).mono ?_
            rintro _ w7 ⟨rfl, hb7⟩
            refine hK _ _ ⟨b0, b1, true, b3, b4, b5, b6, b7, b8, b9, b10, b11, b12, b13, b14, _, _, _, x68, x69, x70, x71, x72, x73, y1, y2, y3, g1, g2, g3, rfl, rfl, ?_⟩
            have h7 := h.lift hb7
            exact ⟨h7.ob, h7.l0, h7.l1, fun _ => rfl, h7.l3, h7.l4, h7.l5, h7.l6, h7.l7, h7.l8, h7.p1, h7.p2, h7.p3, h7.m1, h7.m2, h7.m3, h7.n12, h7.n13, h7.n23⟩
          · refine wpOp_run rfl rfl fun K hK => ?_
            obtain ⟨d1, d2, d3, d4, d5, d6, d7, d8⟩ := h.ob.s
            unfold fr
            simp only [List.cons_append, List.nil_append]
            go_simp
            refine hK _ _ ⟨b0, b1, b2, true, b4, b5, b6, b7, b8, b9, b10, b11, b12, b13, b14, x65, x66, x67, _, x69, x70, x71, x72, x73, y1, y2, y3, g1, g2, g3, rfl, rfl, ?_⟩
            exact ⟨h.ob, h.l0, h.l1, h.l2, fun _ => rfl, h.l4, h.l5, h.l6, h.l7, h.l8, h.p1, h.p2, h.p3, h.m1, h.m2, h.m3, h.n12, h.n13, h.n23⟩
          · refine wpOp_run rfl rfl fun K hK => ?_
            obtain ⟨d1, d2, d3, d4, d5, d6, d7, d8⟩ := h.ob.s
            unfold fr
            simp only [List.cons_append, List.nil_append]
            go_simp
            refine hK _ _ ⟨b0, b1, b2, b3, true, b5, b6, b7, b8, b9, b10, b11, b12, b13, b14, x65, x66, x67, x68, _, x70, x71, x72, x73, y1, y2, y3, g1, g2, g3, rfl, rfl, ?_⟩
            exact ⟨h.ob, h.l0, h.l1, h.l2, h.l3, fun _ => rfl, h.l5, h.l6, h.l7, h.l8, h.p1, h.p2, h.p3, h.m1, h.m2, h.m3, h.n12, h.n13, h.n23⟩
          · refine wpOp_run rfl rfl fun K hK => ?_
            have e3 : b3 = true := hall ⟨3, .data⟩ (by simp) rfl
            have e4 : b4 = true := hall ⟨4, .data⟩ (by simp) rfl
            have q1 := h.l3 e3
            have q2 := h.l4 e4
            subst q1 q2
            unfold fr
            simp only [List.cons_append, List.nil_append]
            go_simp
            refine (M2.out _).mono ?_
            rintro _ w7 ⟨rfl, hb7⟩
            refine hK _ _ ⟨b0, b1, b2, b3, b4, true, b6, b7, b8, b9, b10, b11, b12, b13, b14, x65, x66, x67, _, _, _, x71, x72, x73, y1, y2, y3, g1, g2, g3, rfl, rfl, ?_⟩
            have h7 := h.lift hb7
            exact ⟨h7.ob, h7.l0, h7.l1, h7.l2, h7.l3, h7.l4, fun _ => rfl, h7.l6, h7.l7, h7.l8, h7.p1, h7.p2, h7.p3, h7.m1, h7.m2, h7.m3, h7.n12, h7.n13, h7.n23⟩
          · refine wpOp_run rfl rfl fun K hK => ?_
            obtain ⟨d1, d2, d3, d4, d5, d6, d7, d8⟩ := h.ob.s
            unfold fr
            simp only [List.cons_append, List.nil_append]
            go_simp
            refine hK _ _ ⟨b0, b1, b2, b3, b4, b5, true, b7, b8, b9, b10, b11, b12, b13, b14, x65, x66, x67, x68, x69, x70, _, x72, x73, y1, y2, y3, g1, g2, g3, rfl, rfl, ?_⟩
            exact ⟨h.ob, h.l0, h.l1, h.l2, h.l3, h.l4, h.l5, fun _ => rfl, h.l7, h.l8, h.p1, h.p2, h.p3, h.m1, h.m2, h.m3, h.n12, h.n13, h.n23⟩
          · refine wpOp_run rfl rfl fun K hK => ?_
            obtain ⟨d1, d2, d3, d4, d5, d6, d7, d8⟩ := h.ob.s
            unfold fr
            simp only [List.cons_append, List.nil_append]
            go_simp
            refine hK _ _ ⟨b0, b1, b2, b3, b4, b5, b6, true, b8, b9, b10, b11, b12, b13, b14, x65, x66, x67, x68, x69, x70, x71, _, x73, y1, y2, y3, g1, g2, g3, rfl, rfl, ?_⟩
            exact ⟨h.ob, h.l0, h.l1, h.l2, h.l3, h.l4, h.l5, h.l6, fun _ => rfl, h.l8, h.p1, h.p2, h.p3, h.m1, h.m2, h.m3, h.n12, h.n13, h.n23⟩
          · refine wpOp_run rfl rfl fun K hK => ?_
            have e6 : b6 = true := hall ⟨6, .data⟩ (by simp) rfl
            have e7 : b7 = true := hall ⟨7, .data⟩ (by simp) rfl
            have q1 := h.l6 e6
            have q2 := h.l7 e7
            subst q1 q2
            unfold fr
            simp only [List.cons_append, List.nil_append]
            go_simp
            refine (M3.out _).mono ?_
            rintro _ w7 ⟨rfl, hb7⟩
            refine hK _ _ ⟨b0, b1, b2, b3, b4, b5, b6, b7, true, b9, b10, b11, b12, b13, b14, x65, x66, x67, x68, x69, x70, _, _, _, y1, y2, y3, g1, g2, g3, rfl, rfl, ?_⟩
            have h7 := h.lift hb7
            exact ⟨h7.ob, h7.l0, h7.l1, h7.l2, h7.l3, h7.l4, h7.l5, h7.l6, h7.l7, fun _ => rfl, h7.p1, h7.p2, h7.p3, h7.m1, h7.m2, h7.m3, h7.n12, h7.n13, h7.n23⟩
          · refine wpOp_run rfl rfl fun K hK => ?_
            have hl' : b9 = false := hl
            have hlt := h.ob.lt
            unfold fr
            simp only [List.cons_append, List.nil_append]
            go_simp
            refine hK _ _ ⟨b0, b1, b2, b3, b4, b5, b6, b7, b8, true, b10, b11, b12, b13, b14, x65, x66, x67, x68, x69, x70, x71, x72, x73, _, y2, y3, wx.heap.size, g2, g3, rfl, rfl, ?_⟩
            have hA := (Below.refl wx.heap.size wx).alloc (Nat.le_refl _) (.cells #[.int .i64 0, .int .i64 0] 23)
            exact ⟨h.ob.lift hA, h.l0, h.l1, h.l2, h.l3, h.l4, h.l5, h.l6, h.l7, h.l8, fun _ => ⟨rfl, by omega, _, _, blkN _ _ _ rfl, fun e => absurd (h.m1 e) (by rw [hl']; decide)⟩, fun e => ⟨(h.p2 e).1, (h.p2 e).2.1, (h.p2 e).2.2.lift hA⟩, fun e => ⟨(h.p3 e).1, (h.p3 e).2.1, (h.p3 e).2.2.lift hA⟩, fun _ => rfl, h.m2, h.m3, fun _ e => Nat.ne_of_gt (h.p2 e).2.2.lt, fun _ e => Nat.ne_of_gt (h.p3 e).2.2.lt, h.n23⟩
          · refine wpOp_run rfl rfl fun K hK => ?_
            have hl' : b10 = false := hl
            have hlt := h.ob.lt
            unfold fr
            simp only [List.cons_append, List.nil_append]
            go_simp
            refine hK _ _ ⟨b0, b1, b2, b3, b4, b5, b6, b7, b8, b9, true, b11, b12, b13, b14, x65, x66, x67, x68, x69, x70, x71, x72, x73, y1, _, y3, g1, wx.heap.size, g3, rfl, rfl, ?_⟩
            have hA := (Below.refl wx.heap.size wx).alloc (Nat.le_refl _) (.cells #[.int .i64 0, .int .i64 0] 23)
            exact ⟨h.ob.lift hA, h.l0, h.l1, h.l2, h.l3, h.l4, h.l5, h.l6, h.l7, h.l8, fun e => ⟨(h.p1 e).1, (h.p1 e).2.1, (h.p1 e).2.2.lift hA⟩, fun _ => ⟨rfl, by omega, _, _, blkN _ _ _ rfl, fun e => absurd (h.m2 e) (by rw [hl']; decide)⟩, fun e => ⟨(h.p3 e).1, (h.p3 e).2.1, (h.p3 e).2.2.lift hA⟩, h.m1, fun _ => rfl, h.m3, fun e _ => Nat.ne_of_lt (h.p1 e).2.2.lt, h.n13, fun _ e => Nat.ne_of_gt (h.p3 e).2.2.lt⟩
          · refine wpOp_run rfl rfl fun K hK => ?_
            have hl' : b11 = false := hl
            have hlt := h.ob.lt
            unfold fr
            simp only [List.cons_append, List.nil_append]
            go_simp
            refine hK _ _ ⟨b0, b1, b2, b3, b4, b5, b6, b7, b8, b9, b10, true, b12, b13, b14, x65, x66, x67, x68, x69, x70, x71, x72, x73, y1, y2, _, g1, g2, wx.heap.size, rfl, rfl, ?_⟩
            have hA := (Below.refl wx.heap.size wx).alloc (Nat.le_refl _) (.cells #[.int .i64 0, .int .i64 0] 23)
            exact ⟨h.ob.lift hA, h.l0, h.l1, h.l2, h.l3, h.l4, h.l5, h.l6, h.l7, h.l8, fun e => ⟨(h.p1 e).1, (h.p1 e).2.1, (h.p1 e).2.2.lift hA⟩, fun e => ⟨(h.p2 e).1, (h.p2 e).2.1, (h.p2 e).2.2.lift hA⟩, fun _ => ⟨rfl, by omega, _, _, blkN _ _ _ rfl, fun e => absurd (h.m3 e) (by rw [hl']; decide)⟩, h.m1, h.m2, fun _ => rfl, h.n12, fun e _ => Nat.ne_of_lt (h.p1 e).2.2.lt, fun e _ => Nat.ne_of_lt (h.p2 e).2.2.lt⟩
          · refine wpOp_run rfl rfl fun K hK => ?_
            have e9 : b9 = true := hall ⟨9, .data⟩ (by simp) rfl
            have e2 : b2 = true := hall ⟨2, .data⟩ (by simp) rfl
            have q1 := h.l2 e2
            obtain ⟨q2, hg, c, d, hh, _⟩ := h.p1 e9
            subst q1 q2
            obtain ⟨⟨f1, f2⟩, f3, f4⟩ := blk2 hh
            unfold fr
            simp only [List.cons_append, List.nil_append]
            go_simp
            refine hK _ _ ⟨b0, b1, b2, b3, b4, b5, b6, b7, b8, b9, b10, b11, true, b13, b14, x65, x66, _, x68, x69, x70, x71, x72, x73, _, y2, y3, g1, g2, g3, rfl, rfl, ?_⟩
            exact ⟨(h.ob.set _ _ _ hg).set _ _ _ hg, h.l0, h.l1, fun _ => rfl, h.l3, h.l4, h.l5, h.l6, h.l7, h.l8, fun _ => ⟨rfl, hg, _, _, set2 hh _ _, fun _ => ⟨rfl, rfl⟩⟩, fun e => ⟨(h.p2 e).1, (h.p2 e).2.1, ((h.p2 e).2.2.set _ _ _ (Ne.symm (h.n12 e9 e))).set _ _ _ (Ne.symm (h.n12 e9 e))⟩, fun e => ⟨(h.p3 e).1, (h.p3 e).2.1, ((h.p3 e).2.2.set _ _ _ (Ne.symm (h.n13 e9 e))).set _ _ _ (Ne.symm (h.n13 e9 e))⟩, fun _ => e9, h.m2, h.m3, h.n12, h.n13, h.n23⟩
          · refine wpOp_run rfl rfl fun K hK => ?_
            have e10 : b10 = true := hall ⟨10, .data⟩ (by simp) rfl
            have e5 : b5 = true := hall ⟨5, .data⟩ (by simp) rfl
            have q1 := h.l5 e5
            obtain ⟨q2, hg, c, d, hh, _⟩ := h.p2 e10
            subst q1 q2
            obtain ⟨⟨f1, f2⟩, f3, f4⟩ := blk2 hh
            unfold fr
            simp only [List.cons_append, List.nil_append]
            go_simp
            refine hK _ _ ⟨b0, b1, b2, b3, b4, b5, b6, b7, b8, b9, b10, b11, b12, true, b14, x65, x66, x67, x68, x69, _, x71, x72, x73, y1, _, y3, g1, g2, g3, rfl, rfl, ?_⟩
            exact ⟨(h.ob.set _ _ _ hg).set _ _ _ hg, h.l0, h.l1, h.l2, h.l3, h.l4, fun _ => rfl, h.l6, h.l7, h.l8, fun e => ⟨(h.p1 e).1, (h.p1 e).2.1, ((h.p1 e).2.2.set _ _ _ (h.n12 e e10)).set _ _ _ (h.n12 e e10)⟩, fun _ => ⟨rfl, hg, _, _, set2 hh _ _, fun _ => ⟨rfl, rfl⟩⟩, fun e => ⟨(h.p3 e).1, (h.p3 e).2.1, ((h.p3 e).2.2.set _ _ _ (Ne.symm (h.n23 e10 e))).set _ _ _ (Ne.symm (h.n23 e10 e))⟩, h.m1, fun _ => e10, h.m3, h.n12, h.n13, h.n23⟩
          · refine wpOp_run rfl rfl fun K hK => ?_
            have e11 : b11 = true := hall ⟨11, .data⟩ (by simp) rfl
            have e8 : b8 = true := hall ⟨8, .data⟩ (by simp) rfl
            have q1 := h.l8 e8
            obtain ⟨q2, hg, c, d, hh, _⟩ := h.p3 e11
            subst q1 q2
            obtain ⟨⟨f1, f2⟩, f3, f4⟩ := blk2 hh
            unfold fr
            simp only [List.cons_append, List.nil_append]
            go_simp
            refine hK _ _ ⟨b0, b1, b2, b3, b4, b5, b6, b7, b8, b9, b10, b11, b12, b13, true, x65, x66, x67, x68, x69, x70, x71, x72, _, y1, y2, _, g1, g2, g3, rfl, rfl, ?_⟩
            exact ⟨(h.ob.set _ _ _ hg).set _ _ _ hg, h.l0, h.l1, h.l2, h.l3, h.l4, h.l5, h.l6, h.l7, fun _ => rfl, fun e => ⟨(h.p1 e).1, (h.p1 e).2.1, ((h.p1 e).2.2.set _ _ _ (h.n13 e e11)).set _ _ _ (h.n13 e e11)⟩, fun e => ⟨(h.p2 e).1, (h.p2 e).2.1, ((h.p2 e).2.2.set _ _ _ (h.n23 e e11)).set _ _ _ (h.n23 e e11)⟩, fun _ => ⟨rfl, hg, _, _, set2 hh _ _, fun _ => ⟨rfl, rfl⟩⟩, h.m1, h.m2, fun _ => e11, h.n12, h.n13, h.n23⟩
        · intro listed a wx hI hr
          obtain ⟨b0, b1, b2, b3, b4, b5, b6, b7, b8, b9, b10, b11, b12, b13, b14, x65, x66, x67, x68, x69, x70, x71, x72, x73, y1, y2, y3, g1, g2, g3, rfl, rfl, h⟩ := hI
          have t0 : b0 = true := by
            cases b0
            · refine absurd (?_ : 0 ∈ ([] : List Nat)) List.not_mem_nil
              rw [← hr, mem_ready]
              refine ⟨rfl, _, rfl, ?_⟩
              simp
            · rfl
          subst t0
          have t1 : b1 = true := by
            cases b1
            · refine absurd (?_ : 1 ∈ ([] : List Nat)) List.not_mem_nil
              rw [← hr, mem_ready]
              refine ⟨rfl, _, rfl, ?_⟩
              simp
            · rfl
          subst t1
          have t2 : b2 = true := by
            cases b2
            · refine absurd (?_ : 2 ∈ ([] : List Nat)) List.not_mem_nil
              rw [← hr, mem_ready]
              refine ⟨rfl, _, rfl, ?_⟩
              simp
            · rfl
          subst t2
          have t3 : b3 = true := by
            cases b3
            · refine absurd (?_ : 3 ∈ ([] : List Nat)) List.not_mem_nil
              rw [← hr, mem_ready]
              refine ⟨rfl, _, rfl, ?_⟩
              simp
            · rfl
          subst t3
          have t4 : b4 = true := by
            cases b4
            · refine absurd (?_ : 4 ∈ ([] : List Nat)) List.not_mem_nil
              rw [← hr, mem_ready]
              refine ⟨rfl, _, rfl, ?_⟩
              simp
            · rfl
          subst t4
          have t5 : b5 = true := by
            cases b5
            · refine absurd (?_ : 5 ∈ ([] : List Nat)) List.not_mem_nil
              rw [← hr, mem_ready]
              refine ⟨rfl, _, rfl, ?_⟩
              simp
            · rfl
          subst t5
          have t6 : b6 = true := by
            cases b6
            · refine absurd (?_ : 6 ∈ ([] : List Nat)) List.not_mem_nil
              rw [← hr, mem_ready]
              refine ⟨rfl, _, rfl, ?_⟩
              simp
            · rfl
          subst t6
          have t7 : b7 = true := by
            cases b7
            · refine absurd (?_ : 7 ∈ ([] : List Nat)) List.not_mem_nil
              rw [← hr, mem_ready]
              refine ⟨rfl, _, rfl, ?_⟩
              simp
            · rfl
          subst t7
          have t8 : b8 = true := by
            cases b8
            · refine absurd (?_ : 8 ∈ ([] : List Nat)) List.not_mem_nil
              rw [← hr, mem_ready]
              refine ⟨rfl, _, rfl, ?_⟩
              simp
            · rfl
          subst t8
          have t9 : b9 = true := by
            cases b9
            · refine absurd (?_ : 9 ∈ ([] : List Nat)) List.not_mem_nil
              rw [← hr, mem_ready]
              refine ⟨rfl, _, rfl, ?_⟩
              simp
            · rfl
          subst t9
          have t10 : b10 = true := by
            cases b10
            · refine absurd (?_ : 10 ∈ ([] : List Nat)) List.not_mem_nil
              rw [← hr, mem_ready]
              refine ⟨rfl, _, rfl, ?_⟩
              simp
            · rfl
          subst t10
          have t11 : b11 = true := by
            cases b11
            · refine absurd (?_ : 11 ∈ ([] : List Nat)) List.not_mem_nil
              rw [← hr, mem_ready]
              refine ⟨rfl, _, rfl, ?_⟩
              simp
            · rfl
          subst t11
          have t12 : b12 = true := by
            cases b12
            · refine absurd (?_ : 12 ∈ ([] : List Nat)) List.not_mem_nil
              rw [← hr, mem_ready]
              refine ⟨rfl, _, rfl, ?_⟩
              simp
            · rfl
          subst t12
          have t13 : b13 = true := by
            cases b13
            · refine absurd (?_ : 13 ∈ ([] : List Nat)) List.not_mem_nil
              rw [← hr, mem_ready]
              refine ⟨rfl, _, rfl, ?_⟩
              simp
            · rfl
          subst t13
          have t14 : b14 = true := by
            cases b14
            · refine absurd (?_ : 14 ∈ ([] : List Nat)) List.not_mem_nil
              rw [← hr, mem_ready]
              refine ⟨rfl, _, rfl, ?_⟩
              simp
            · rfl
          subst t14
          obtain ⟨q1, _, c1, d1, hh1, v1⟩ := h.p1 rfl
          obtain ⟨rfl, rfl⟩ := v1 rfl
          obtain ⟨q2, _, c2, d2, hh2, v2⟩ := h.p2 rfl
          obtain ⟨rfl, rfl⟩ := v2 rfl
          obtain ⟨q3, _, c3, d3, hh3, v3⟩ := h.p3 rfl
          obtain ⟨rfl, rfl⟩ := v3 rfl
          subst q1 q2 q3
          have hx : XB w wx g1 g2 g3 ax ay bx bY cx cy px py := ⟨h.ob, hh1, hh2, hh3⟩
          clear h hh1 hh2 hh3 hr
          unfold fr
          simp only [List.cons_append, List.nil_append]
          go_wp2_with fail
          go_meet
          exact ⟨g1, g2, g3, rfl, rfl, rfl, hx⟩
        · refine ⟨false, false, false, false, false, false, false, false, false, false, false, false, false, false, false, _, _, _, _, _, _, _, _, _, _, _, _, 0, 0, 0, rfl, rfl, ⟨hm.drew, (fun e => absurd e (by decide)), (fun e => absurd e (by decide)), (fun e => absurd e (by decide)), (fun e => absurd e (by decide)), (fun e => absurd e (by decide)), (fun e => absurd e (by decide)), (fun e => absurd e (by decide)), (fun e => absurd e (by decide)), (fun e => absurd e (by decide)), (fun e => absurd e (by decide)), (fun e => absurd e (by decide)), (fun e => absurd e (by decide)), (fun e => absurd e (by decide)), (fun e => absurd e (by decide)), (fun e => absurd e (by decide)), (fun e => absurd e (by decide)), (fun e => absurd e (by decide)), (fun e => absurd e (by decide))⟩⟩
      case rest =>
        clear hm M1 M2 M3
        obtain ⟨g1, g2, g3, rfl, rfl, rfl, hx⟩ := hcut
        go_upto_region 8 with (fail)
        cases nn with
        | true =>
          have z1 := HOM.out rfl
          have z2 := HDM.out rfl
          subst z1 z2
          clear HOM HDM
          go_region_held3 (fun w' => XB w w' g1 g2 g3 ax ay bx bY cx cy px py ∧ w'.cell? ⟨g1, 0, none⟩ = some (.int .i64 (ax + px)) ∧ w'.cell? ⟨g1, 1, none⟩ = some (.int .i64 (ay + py)) ∧ w'.cell? ⟨g2, 0, none⟩ = some (.int .i64 (bx + px)) ∧ w'.cell? ⟨g2, 1, none⟩ = some (.int .i64 (bY + py)) ∧ w'.cell? ⟨g3, 0, none⟩ = some (.int .i64 (cx + px)) ∧ w'.cell? ⟨g3, 1, none⟩ = some (.int .i64 (cy + py)) ∧ w'.cell? ⟨w.heap.size, 0, none⟩ = some (.int .i64 (ax)) ∧ w'.cell? ⟨w.heap.size, 1, none⟩ = some (.int .i64 (ay)) ∧ w'.cell? ⟨w.heap.size + 1, 0, none⟩ = some (.int .i64 (bx)) ∧ w'.cell? ⟨w.heap.size + 1, 1, none⟩ = some (.int .i64 (bY)))
            ((first | exact hk7.s | exact hx.drew.s | exact (XB.alloc (And.left (by assumption)) _).s))
            (first
              | (go_at_call 25; (with_reducible refine (HN3.out _ _ _ _ (by simp)).mono ?_); rintro _ w7 ⟨rfl, hb7⟩; have hk7 := XB.lift hx hb7)
              | (go_at_call 11; (with_reducible refine (HG.out _).mono ?_); rintro _ w7 ⟨rfl, hb7⟩; have hk7 := XB.lift (And.left (by assumption)) hb7)
              | (go_at_call 19; (with_reducible refine (HD1.out _).mono ?_); rintro _ w7 ⟨rfl, hb7⟩; have hk7 := XB.lift (And.left (by assumption)) hb7)
              | (go_at_call 19; (with_reducible refine (HD2.out _).mono ?_); rintro _ w7 ⟨rfl, hb7⟩; have hk7 := XB.lift (And.left (by assumption)) hb7))
          all_goals
            (have hb := XB.ob (And.left (by assumption)))
            go_wp2_with fail
            go_ret
            exact ⟨rfl, hb.below⟩
        | false =>
          refine wp_region_held_drew (S := (fun w' => XB w w' g1 g2 g3 ax ay bx bY cx cy px py ∧ w'.cell? ⟨g1, 0, none⟩ = some (.int .i64 (ax + px)) ∧ w'.cell? ⟨g1, 1, none⟩ = some (.int .i64 (ay + py)) ∧ w'.cell? ⟨g2, 0, none⟩ = some (.int .i64 (bx + px)) ∧ w'.cell? ⟨g2, 1, none⟩ = some (.int .i64 (bY + py)) ∧ w'.cell? ⟨g3, 0, none⟩ = some (.int .i64 (cx + px)) ∧ w'.cell? ⟨g3, 1, none⟩ = some (.int .i64 (cy + py)) ∧ w'.cell? ⟨w.heap.size, 0, none⟩ = some (.int .i64 (ax)) ∧ w'.cell? ⟨w.heap.size, 1, none⟩ = some (.int .i64 (ay)) ∧ w'.cell? ⟨w.heap.size + 1, 0, none⟩ = some (.int .i64 (bx)) ∧ w'.cell? ⟨w.heap.size + 1, 1, none⟩ = some (.int .i64 (bY)))) (by kernel_rfl) hx.drew.s (fun hHeld => ?_)
          refine takeD (i := 0) (d := 74) (v := (.bool true)) rfl rfl (by kernel_rfl) (by kernel_rfl) (by kernel_rfl) (fun _ _ _ h => h) (Or.inl ⟨by kernel_rfl, ?_⟩) (by assumption) ?_
          · (intro w' hS; (try dsimp only at hS); go_simp)
          simp only [Act.put, List.setIfInBounds_toArray, List.set_cons_zero, List.set_cons_succ]
          refine takeD (i := 1) (d := 75) (v := (.bool true)) rfl rfl (by kernel_rfl) (by kernel_rfl) (by kernel_rfl) (fun _ _ _ h => h) (Or.inl ⟨by kernel_rfl, ?_⟩) (by assumption) ?_
          · (intro w' hS; (try dsimp only at hS); go_simp)
          simp only [Act.put, List.setIfInBounds_toArray, List.set_cons_zero, List.set_cons_succ]
          refine takeD (i := 2) (d := 76) (v := (.agg #[.int .i64 (ax + px), .int .i64 (ay + py)])) rfl rfl (by kernel_rfl) (by kernel_rfl) (by kernel_rfl) (fun _ _ _ h => h) (Or.inl ⟨by kernel_rfl, ?_⟩) (by assumption) ?_
          · (intro w' hS; (try dsimp only at hS); go_simp)
          simp only [Act.put, List.setIfInBounds_toArray, List.set_cons_zero, List.set_cons_succ]
          refine takeD (i := 3) (d := 77) (v := (.agg #[.int .i64 (bx + px), .int .i64 (bY + py)])) rfl rfl (by kernel_rfl) (by kernel_rfl) (by kernel_rfl) (fun _ _ _ h => h) (Or.inl ⟨by kernel_rfl, ?_⟩) (by assumption) ?_
          · (intro w' hS; (try dsimp only at hS); go_simp)
          simp only [Act.put, List.setIfInBounds_toArray, List.set_cons_zero, List.set_cons_succ]
          refine takeD (i := 4) (d := 78) (v := (.agg #[.int .i64 (cx + px), .int .i64 (cy + py)])) rfl rfl (by kernel_rfl) (by kernel_rfl) (by kernel_rfl) (fun _ _ _ h => h) (Or.inl ⟨by kernel_rfl, ?_⟩) (by assumption) ?_
          · (intro w' hS; (try dsimp only at hS); go_simp)
          simp only [Act.put, List.setIfInBounds_toArray, List.set_cons_zero, List.set_cons_succ]
          refine wpAnyH_ready (rs := [5]) (by kernel_rfl) (by simp) ?_
          refine AllReadyH.cons rfl (fun K hK => ?_) AllReadyH.nil
          go_simp
          refine hK.out _ _ ((hx.drew.alloc _).s) (fun hHeld2 => ?_)
          clear hK K hHeld
          refine wpAnyH_ready (rs := [6]) (by kernel_rfl) (by simp) ?_
          refine AllReadyH.cons rfl (fun K hK => ?_) AllReadyH.nil
          go_simp
          (with_reducible refine (HN3.out _ _ _ _ (by simp)).mono ?_)
          rintro _ w7 ⟨rfl, hb7⟩
          have hk7 := XB.lift hx hb7
          refine hK.out _ _ hk7.s (fun hHeld => ?_)
          clear hK K hHeld2
          refine takeD (i := 7) (d := 81) (v := (.bool true)) rfl rfl (by kernel_rfl) (by kernel_rfl) (by kernel_rfl) (fun _ _ _ h => h) (Or.inl ⟨by kernel_rfl, ?_⟩) (by assumption) ?_
          · (intro w' hS; (try dsimp only at hS); go_simp)
          simp only [Act.put, List.setIfInBounds_toArray, List.set_cons_zero, List.set_cons_succ]
          refine takeD (i := 8) (d := 82) (v := (.bool true)) rfl rfl (by kernel_rfl) (by kernel_rfl) (by kernel_rfl) (fun _ _ _ h => h) (Or.inl ⟨by kernel_rfl, ?_⟩) (by assumption) ?_
          · (intro w' hS; (try dsimp only at hS); go_simp)
          simp only [Act.put, List.setIfInBounds_toArray, List.set_cons_zero, List.set_cons_succ]
          refine takeD (i := 9) (d := 83) (v := undef) rfl rfl (by kernel_rfl) (by kernel_rfl) (by kernel_rfl) (fun _ _ _ h => h) (Or.inr ⟨by kernel_rfl, rfl⟩) (by assumption) ?_
          simp only [Act.put, List.setIfInBounds_toArray, List.set_cons_zero, List.set_cons_succ]
          refine takeD (i := 10) (d := 84) (v := undef) rfl rfl (by kernel_rfl) (by kernel_rfl) (by kernel_rfl) (fun _ _ _ h => h) (Or.inr ⟨by kernel_rfl, rfl⟩) (by assumption) ?_
          simp only [Act.put, List.setIfInBounds_toArray, List.set_cons_zero, List.set_cons_succ]
          refine takeD (i := 11) (d := 85) (v := undef) rfl rfl (by kernel_rfl) (by kernel_rfl) (by kernel_rfl) (fun _ _ _ h => h) (Or.inr ⟨by kernel_rfl, rfl⟩) (by assumption) ?_
          simp only [Act.put, List.setIfInBounds_toArray, List.set_cons_zero, List.set_cons_succ]
          refine takeD (i := 12) (d := 86) (v := undef) rfl rfl (by kernel_rfl) (by kernel_rfl) (by kernel_rfl) (fun _ _ _ h => h) (Or.inr ⟨by kernel_rfl, rfl⟩) (by assumption) ?_
          simp only [Act.put, List.setIfInBounds_toArray, List.set_cons_zero, List.set_cons_succ]
          refine takeD (i := 13) (d := 87) (v := undef) rfl rfl (by kernel_rfl) (by kernel_rfl) (by kernel_rfl) (fun _ _ _ h => h) (Or.inr ⟨by kernel_rfl, rfl⟩) (by assumption) ?_
          simp only [Act.put, List.setIfInBounds_toArray, List.set_cons_zero, List.set_cons_succ]
          refine takeD (i := 14) (d := 88) (v := undef) rfl rfl (by kernel_rfl) (by kernel_rfl) (by kernel_rfl) (fun _ _ _ h => h) (Or.inr ⟨by kernel_rfl, rfl⟩) (by assumption) ?_
          simp only [Act.put, List.setIfInBounds_toArray, List.set_cons_zero, List.set_cons_succ]
          refine takeD (i := 15) (d := 89) (v := undef) rfl rfl (by kernel_rfl) (by kernel_rfl) (by kernel_rfl) (fun _ _ _ h => h) (Or.inr ⟨by kernel_rfl, rfl⟩) (by assumption) ?_
          simp only [Act.put, List.setIfInBounds_toArray, List.set_cons_zero, List.set_cons_succ]
          refine takeD (i := 16) (d := 90) (v := undef) rfl rfl (by kernel_rfl) (by kernel_rfl) (by kernel_rfl) (fun _ _ _ h => h) (Or.inr ⟨by kernel_rfl, rfl⟩) (by assumption) ?_
          simp only [Act.put, List.setIfInBounds_toArray, List.set_cons_zero, List.set_cons_succ]
          refine takeD (i := 17) (d := 91) (v := undef) rfl rfl (by kernel_rfl) (by kernel_rfl) (by kernel_rfl) (fun _ _ _ h => h) (Or.inr ⟨by kernel_rfl, rfl⟩) (by assumption) ?_
          simp only [Act.put, List.setIfInBounds_toArray, List.set_cons_zero, List.set_cons_succ]
          refine takeD (i := 18) (d := 92) (v := undef) rfl rfl (by kernel_rfl) (by kernel_rfl) (by kernel_rfl) (fun _ _ _ h => h) (Or.inr ⟨by kernel_rfl, rfl⟩) (by assumption) ?_
          simp only [Act.put, List.setIfInBounds_toArray, List.set_cons_zero, List.set_cons_succ]
          refine takeD (i := 19) (d := 93) (v := undef) rfl rfl (by kernel_rfl) (by kernel_rfl) (by kernel_rfl) (fun _ _ _ h => h) (Or.inr ⟨by kernel_rfl, rfl⟩) (by assumption) ?_
          simp only [Act.put, List.setIfInBounds_toArray, List.set_cons_zero, List.set_cons_succ]
          refine takeD (i := 20) (d := 94) (v := undef) rfl rfl (by kernel_rfl) (by kernel_rfl) (by kernel_rfl) (fun _ _ _ h => h) (Or.inr ⟨by kernel_rfl, rfl⟩) (by assumption) ?_
          simp only [Act.put, List.setIfInBounds_toArray, List.set_cons_zero, List.set_cons_succ]
          refine takeD (i := 21) (d := 95) (v := undef) rfl rfl (by kernel_rfl) (by kernel_rfl) (by kernel_rfl) (fun _ _ _ h => h) (Or.inr ⟨by kernel_rfl, rfl⟩) (by assumption) ?_
          simp only [Act.put, List.setIfInBounds_toArray, List.set_cons_zero, List.set_cons_succ]
          refine takeD (i := 22) (d := 96) (v := undef) rfl rfl (by kernel_rfl) (by kernel_rfl) (by kernel_rfl) (fun _ _ _ h => h) (Or.inr ⟨by kernel_rfl, rfl⟩) (by assumption) ?_
          simp only [Act.put, List.setIfInBounds_toArray, List.set_cons_zero, List.set_cons_succ]
          refine takeD (i := 23) (d := 97) (v := undef) rfl rfl (by kernel_rfl) (by kernel_rfl) (by kernel_rfl) (fun _ _ _ h => h) (Or.inr ⟨by kernel_rfl, rfl⟩) (by assumption) ?_
          simp only [Act.put, List.setIfInBounds_toArray, List.set_cons_zero, List.set_cons_succ]
          refine takeD (i := 24) (d := 98) (v := (.bool true)) rfl rfl (by kernel_rfl) (by kernel_rfl) (by kernel_rfl) (fun _ _ _ h => h) (Or.inl ⟨by kernel_rfl, ?_⟩) (by assumption) ?_
          · (intro w' hS; (try dsimp only at hS); go_simp)
          simp only [Act.put, List.setIfInBounds_toArray, List.set_cons_zero, List.set_cons_succ]
          refine takeD (i := 25) (d := 99) (v := (.bool true)) rfl rfl (by kernel_rfl) (by kernel_rfl) (by kernel_rfl) (fun _ _ _ h => h) (Or.inl ⟨by kernel_rfl, ?_⟩) (by assumption) ?_
          · (intro w' hS; (try dsimp only at hS); go_simp)
          simp only [Act.put, List.setIfInBounds_toArray, List.set_cons_zero, List.set_cons_succ]
          refine takeD (i := 26) (d := 8) (v := (.bool true)) rfl rfl (by kernel_rfl) (by kernel_rfl) (by kernel_rfl) (fun _ _ _ h => h) (Or.inl ⟨by kernel_rfl, ?_⟩) (by assumption) ?_
          · (intro w' hS; (try dsimp only at hS); go_simp)
          simp only [Act.put, List.setIfInBounds_toArray, List.set_cons_zero, List.set_cons_succ]
          refine wpAnyH_done (by kernel_rfl) ?_ _
          go_wp2_with fail
          go_ret
          exact ⟨rfl, hk7.ob.below⟩
end Go.Proofs.Ytepfhifogkopcaa
