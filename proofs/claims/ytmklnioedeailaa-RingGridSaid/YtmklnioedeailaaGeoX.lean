/-
  The reference's Meets of the geometry, walked.
-/
import Derived.Test.YtmklnioedeailaaGeoV
import Derived.BigQuiet
import Derived.OwnWalk
import Derived.Laws.OwnMore
import Derived.Deep.DeepCutAuto
namespace Go.Proofs.Ytmklnioedeailaa
open Go.RowKit Go.Proofs.PlGeom

def cellsP : List Pt → List Value
  | [] => []
  | p :: l => [.int .i64 p.x, .int .i64 p.y] ++ cellsP l
theorem cellsP_app (a b : List Pt) : cellsP (a ++ b) = cellsP a ++ cellsP b := by
  induction a with
  | nil => rfl
  | cons t a ih => simp only [List.cons_append, cellsP, ih, List.append_assoc]
theorem cellsP_len (a : List Pt) : (cellsP a).length = a.length * 2 := by
  induction a with
  | nil => rfl
  | cons t a ih => simp only [cellsP, List.length_append, ih, List.length_cons, List.length_nil]; omega
theorem cellsP_get (a : List Pt) (i : Nat) (t : Pt) (h : a[i]? = some t) : (cellsP a)[i * 2]? = some (.int .i64 t.x) ∧ (cellsP a)[i * 2 + 1]? = some (.int .i64 t.y) := by
  induction a generalizing i with
  | nil => simp at h
  | cons u a ih =>
    cases i with
    | zero =>
      simp only [List.getElem?_cons_zero, Option.some.injEq] at h
      subst h
      simp [cellsP]
    | succ i =>
      simp only [List.getElem?_cons_succ] at h
      obtain ⟨h1, h2⟩ := ih i h
      have e : ∀ j, (cellsP (u :: a))[2 + j]? = (cellsP a)[j]? := fun j => by
        simp only [cellsP]
        rw [List.getElem?_append_right (by simp)]
        congr 1
        simp
      refine ⟨?_, ?_⟩
      · rw [show (i + 1) * 2 = 2 + i * 2 by omega, e]; exact h1
      · rw [show (i + 1) * 2 + 1 = 2 + (i * 2 + 1) by omega, e]; exact h2
theorem info_pt : (Try.prog.info? 24).map (fun i => (i.zero, i.size, i.bytes)) = some (some (.agg #[.int .i64 0, .int .i64 0]), 2, 16) := by kernel_rfl

theorem ownP_below {w w' : World} {B : Nat} {e : TypeId} {sz : Nat} {v : Value} {n : Nat} {xs : List Value} (h : w.ownsRow B e sz v n xs) (hb : Below w.heap.size w w') : w'.ownsRow B e sz v n xs := by
  obtain ⟨h1, h2⟩ := h
  refine ⟨h1, ?_⟩
  rcases h2 with h2 | ⟨g, cap, cur, hv, hg, hh, r⟩
  · exact .inl h2
  · exact .inr ⟨g, cap, cur, hv, hg, blkB hb hh, r⟩
theorem addr_add (g j : Nat) : Addr.add ⟨g, 0, none⟩ j = ⟨g, j, none⟩ := by
  unfold Addr.add
  split
  · rename_i h; rw [h]
  · simp
theorem newP_cells (w : World) (l : List Value) (t : TypeId) : ∀ (j : Nat) (u : Value), l[j]? = some u → (w.alloc (.cells l.toArray t)).cell? (Addr.add ⟨w.heap.size, 0, none⟩ j) = some u := by
  intro j u hj
  rw [addr_add, cell_of_row (w.alloc (.cells l.toArray t)) w.heap.size j l.toArray t (0, 0) (heap_alloc_new w _)]
  simpa using hj
theorem own_slice {w : World} {B : Nat} {e : TypeId} {sz : Nat} {v : Value} {n : Nat} {xs : List Value} (h : w.ownsRow B e sz v n xs) : ∃ A c, v = .slice A n c := by
  rcases h.2 with ⟨rfl, h0⟩ | ⟨g, cap, cur, rfl, _⟩
  · exact ⟨none, 0, by rw [h0]⟩
  · exact ⟨_, _, rfl⟩
theorem own_some {w : World} {B : Nat} {e : TypeId} {A : Option Addr} {n c : Nat} {xs : List Value} (h : w.ownsRow B e 2 (.slice A n c) n xs) (hn : 0 < n) : ∃ g, A = some ⟨g, 0, none⟩ ∧ ∀ j u, xs[j]? = some u → w.cell? ⟨g, j, none⟩ = some u := by
  rcases h.2 with ⟨h0, h1⟩ | ⟨g, cap, cur, h0, _⟩
  · omega
  · simp only [Value.slice.injEq] at h0
    obtain ⟨rfl, _, _⟩ := h0
    refine ⟨g, rfl, fun j u hj => ?_⟩
    have := h.cells (g := g) rfl j u hj
    rwa [addr_add] at this

/-- The memory of the reference's Meets: two segments in boxes, the ends, the common ends. -/
structure RM (w wx : World) (ge : Nat) (v : Value) (C : List Pt) (ax ay bx bY cx cy dx dy : Int) : Prop where
  a : wx.heap[w.heap.size]? = some (.cells #[.int .i64 ax, .int .i64 ay, .int .i64 bx, .int .i64 bY] 36 (0, 0))
  b : wx.heap[w.heap.size + 1]? = some (.cells #[.int .i64 cx, .int .i64 cy, .int .i64 dx, .int .i64 dy] 36 (0, 0))
  e : wx.heap[ge]? = some (.cells (cellsP [⟨ax, ay⟩, ⟨bx, bY⟩, ⟨cx, cy⟩, ⟨dx, dy⟩]).toArray 24 (0, 0))
  own : wx.ownsRow (ge + 1) 24 2 v C.length (cellsP C)
  below : Below w.heap.size w wx
  lt : w.heap.size + 2 ≤ ge
theorem RM.lift {w wx : World} {ge : Nat} {v : Value} {C : List Pt} {ax ay bx bY cx cy dx dy : Int} {wy : World} (h : RM w wx ge v C ax ay bx bY cx cy dx dy) (hb : Below wx.heap.size wx wy) : RM w wy ge v C ax ay bx bY cx cy dx dy :=
  ⟨blkB hb h.a, blkB hb h.b, blkB hb h.e, ownP_below h.own hb, bto h.below hb, h.lt⟩
theorem below_drew (w : World) : Below w.heap.size w w.drew := (Below.refl _ _).drew
theorem below_drewN' (w : World) (n : Nat) : Below w.heap.size w (w.drewN n) := ⟨rfl, rfl, rfl, Nat.le_refl _, fun _ _ => rfl⟩
theorem RM.drew {w wx : World} {ge : Nat} {v : Value} {C : List Pt} {ax ay bx bY cx cy dx dy : Int} (h : RM w wx ge v C ax ay bx bY cx cy dx dy) : RM w wx.drew ge v C ax ay bx bY cx cy dx dy := h.lift (below_drew _)
theorem RM.s {w wx : World} {ge : Nat} {v : Value} {C : List Pt} {ax ay bx bY cx cy dx dy : Int} (h : RM w wx ge v C ax ay bx bY cx cy dx dy) : wx.cell? ⟨w.heap.size, 0, none⟩ = some (.int .i64 ax) ∧ wx.cell? ⟨w.heap.size, 1, none⟩ = some (.int .i64 ay) ∧ wx.cell? ⟨w.heap.size, 2, none⟩ = some (.int .i64 bx) ∧ wx.cell? ⟨w.heap.size, 3, none⟩ = some (.int .i64 bY) ∧ wx.cell? ⟨w.heap.size + 1, 0, none⟩ = some (.int .i64 cx) ∧ wx.cell? ⟨w.heap.size + 1, 1, none⟩ = some (.int .i64 cy) ∧ wx.cell? ⟨w.heap.size + 1, 2, none⟩ = some (.int .i64 dx) ∧ wx.cell? ⟨w.heap.size + 1, 3, none⟩ = some (.int .i64 dy) :=
  ⟨(blk4 h.a).1.1, (blk4 h.a).1.2.1, (blk4 h.a).1.2.2.1, (blk4 h.a).1.2.2.2, (blk4 h.b).1.1, (blk4 h.b).1.2.1, (blk4 h.b).1.2.2.1, (blk4 h.b).1.2.2.2⟩
theorem RM.end {w wx : World} {ge : Nat} {v : Value} {C : List Pt} {ax ay bx bY cx cy dx dy : Int} (h : RM w wx ge v C ax ay bx bY cx cy dx dy) {k : Nat} {p : Pt} (hp : ([⟨ax, ay⟩, ⟨bx, bY⟩, ⟨cx, cy⟩, ⟨dx, dy⟩] : List Pt)[k]? = some p) : wx.cell? ⟨ge, k * 2, none⟩ = some (.int .i64 p.x) ∧ wx.cell? ⟨ge, k * 2 + 1, none⟩ = some (.int .i64 p.y) := by
  obtain ⟨h1, h2⟩ := cellsP_get _ k p hp
  have e1 := cell_of_row wx ge (k * 2) _ 24 (0, 0) h.e
  have e2 := cell_of_row wx ge (k * 2 + 1) _ 24 (0, 0) h.e
  rw [e1, e2]
  exact ⟨by simpa using h1, by simpa using h2⟩
theorem RM.appended {w wx w1 : World} {ge : Nat} {v v' : Value} {C : List Pt} {p : Pt} {ax ay bx bY cx cy dx dy : Int} (h : RM w wx ge v C ax ay bx bY cx cy dx dy) (hg : (wx.alloc (.cells #[.int .i64 p.x, .int .i64 p.y] 24)).grownBy w1 v.ownBlock)
    (ho : w1.ownsRow (ge + 1) 24 2 v' (C.length + 1) (cellsP C ++ [.int .i64 p.x, .int .i64 p.y])) : RM w w1 ge v' (C ++ [p]) ax ay bx bY cx cy dx dy := by
  have hl := lt_of_block h.e
  have hlt := h.lt
  have ha := h.below.size
  have own : ∀ k, v.ownBlock = some k → ge + 1 ≤ k := fun k hk => (h.own.lt k hk).1
  have keep : ∀ g o, g ≤ ge → wx.heap[g]? = some o → w1.heap[g]? = some o := by
    intro g o hge hh
    have := lt_of_block hh
    refine (hg.block g (by simp; omega) (fun e => by have := own g e.symm; omega)).trans ?_
    exact blkO _ hh
  refine ⟨keep _ _ (by omega) h.a, keep _ _ (by omega) h.b, keep _ _ (Nat.le_refl _) h.e, ?_, ?_, h.lt⟩
  · rw [cellsP_app, List.length_append]; exact ho
  · exact (h.below.alloc h.below.size _).grown hg (by simp; omega) (fun k hk => by have := own k hk; omega)
def RMs (w : World) (ge : Nat) (v : Value) (C : List Pt) (ax ay bx bY cx cy dx dy : Int) : Type := {wx : World // RM w wx ge v C ax ay bx bY cx cy dx dy}
def RMs.w {w : World} {ge : Nat} {v : Value} {C : List Pt} {ax ay bx bY cx cy dx dy : Int} (u : RMs w ge v C ax ay bx bY cx cy dx dy) : World := u.1
theorem RMs.go {w : World} {ge : Nat} {v : Value} {C : List Pt} {ax ay bx bY cx cy dx dy : Int} (u : RMs w ge v C ax ay bx bY cx cy dx dy) {w8 : World} (hb : Below u.w.heap.size u.w w8) : ∃ u' : RMs w ge v C ax ay bx bY cx cy dx dy, w8 = u'.w := ⟨⟨w8, u.2.lift hb⟩, rfl⟩
theorem RMs.s (w : World) (ge : Nat) (v : Value) (C : List Pt) (ax ay bx bY cx cy dx dy : Int) : (∀ u : RMs w ge v C ax ay bx bY cx cy dx dy, u.w.cell? ⟨w.heap.size, 0, none⟩ = some (.int .i64 ax)) ∧ (∀ u : RMs w ge v C ax ay bx bY cx cy dx dy, u.w.cell? ⟨w.heap.size, 1, none⟩ = some (.int .i64 ay)) ∧ (∀ u : RMs w ge v C ax ay bx bY cx cy dx dy, u.w.cell? ⟨w.heap.size, 2, none⟩ = some (.int .i64 bx)) ∧ (∀ u : RMs w ge v C ax ay bx bY cx cy dx dy, u.w.cell? ⟨w.heap.size, 3, none⟩ = some (.int .i64 bY)) ∧ (∀ u : RMs w ge v C ax ay bx bY cx cy dx dy, u.w.cell? ⟨w.heap.size + 1, 0, none⟩ = some (.int .i64 cx)) ∧ (∀ u : RMs w ge v C ax ay bx bY cx cy dx dy, u.w.cell? ⟨w.heap.size + 1, 1, none⟩ = some (.int .i64 cy)) ∧ (∀ u : RMs w ge v C ax ay bx bY cx cy dx dy, u.w.cell? ⟨w.heap.size + 1, 2, none⟩ = some (.int .i64 dx)) ∧ (∀ u : RMs w ge v C ax ay bx bY cx cy dx dy, u.w.cell? ⟨w.heap.size + 1, 3, none⟩ = some (.int .i64 dy)) :=
  ⟨fun u => u.2.s.1, fun u => u.2.s.2.1, fun u => u.2.s.2.2.1, fun u => u.2.s.2.2.2.1, fun u => u.2.s.2.2.2.2.1, fun u => u.2.s.2.2.2.2.2.1, fun u => u.2.s.2.2.2.2.2.2.1, fun u => u.2.s.2.2.2.2.2.2.2⟩
theorem RMs.end (w : World) (ge : Nat) (v : Value) (C : List Pt) (ax ay bx bY cx cy dx dy : Int) {k : Nat} {p : Pt} (hp : ([⟨ax, ay⟩, ⟨bx, bY⟩, ⟨cx, cy⟩, ⟨dx, dy⟩] : List Pt)[k]? = some p) :
    (∀ u : RMs w ge v C ax ay bx bY cx cy dx dy, u.w.cell? ⟨ge, k * 2, none⟩ = some (.int .i64 p.x)) ∧ (∀ u : RMs w ge v C ax ay bx bY cx cy dx dy, u.w.cell? ⟨ge, k * 2 + 1, none⟩ = some (.int .i64 p.y)) :=
  ⟨fun u => (u.2.end hp).1, fun u => (u.2.end hp).2⟩
theorem RMs.own (w : World) (ge : Nat) (A : Option Addr) (c : Nat) (C : List Pt) (ax ay bx bY cx cy dx dy : Int) (hC : 0 < C.length) (u0 : RMs w ge (.slice A C.length c) C ax ay bx bY cx cy dx dy) :
    ∃ g, A = some ⟨g, 0, none⟩ ∧ ∀ (j : Nat) (x : Value), (cellsP C)[j]? = some x → ∀ u : RMs w ge (.slice A C.length c) C ax ay bx bY cx cy dx dy, u.w.cell? ⟨g, j, none⟩ = some x := by
  obtain ⟨g, rfl, _⟩ := own_some u0.2.own hC
  refine ⟨g, rfl, fun j x hj u => ?_⟩
  obtain ⟨g', e, h⟩ := own_some u.2.own hC
  simp only [Option.some.injEq, Addr.mk.injEq, and_true] at e
  subst e
  exact h j x hj
theorem contains_snoc (C : List Pt) (m : Nat) (h : m < C.length) (p : Pt) (b e : Bool) (hb : b = (C.take m).contains p) (he : decide (C[m] = p) = e) : (b || e) = (C.take (m + 1)).contains p := by
  rw [List.take_succ_eq_append_getElem h, hb, ← he, Bool.eq_iff_iff]
  simp only [Bool.or_eq_true, List.contains_iff_mem, List.mem_append, List.mem_singleton, decide_eq_true_eq]
  constructor
  · rintro (g | g)
    · exact .inl g
    · exact .inr g.symm
  · rintro (g | g)
    · exact .inl g
    · exact .inr g.symm

/-- A region that draws its order, all of whose operations are quiet in a class of worlds, written out. -/
theorem wp_region_quietW {P : Program} {id : Nat} {Q : Exit → Act → World → Prop} {a : Act} {w : World} {l : List Oper} {J : Type} (W : J → World) (u : J) (hu : w.drew = W u) (hm : P.follows .mixedOrders = true) (hB : Region.lexB .any l.toArray = true)
    (h : wpQuiet P l.toArray (fun w' => ∃ u, w' = W u) (fun a' => ∀ w', (∃ u, w' = W u) → Q .normal a' w') l a) : (Code.region id l.toArray true).wp P Q a w :=
  wp_region_quiet (C := fun w' => ∃ u, w' = W u) hm hB ⟨u, hu⟩ (by simpa using h)
theorem vbool {a b : Bool} (h : a = b) : Value.bool a = Value.bool b := by rw [h]

set_option maxRecDepth 100000 in
set_option maxHeartbeats 8000000 in
theorem rmeets_in (ax ay bx bY cx cy dx dy : Int) (w : World) (hn : nearL [⟨ax, ay⟩, ⟨bx, bY⟩, ⟨cx, cy⟩, ⟨dx, dy⟩] = true) : Calls Try.prog 30 #[.agg #[.int .i64 ax, .int .i64 ay, .int .i64 bx, .int .i64 bY], .agg #[.int .i64 cx, .int .i64 cy, .int .i64 dx, .int .i64 dy]] w fun e w' => e = .returned (.int .i64 (meetR ⟨⟨ax, ay⟩, ⟨bx, bY⟩⟩ ⟨⟨cx, cy⟩, ⟨dx, dy⟩⟩)) ∧ Below w.heap.size w w' := by
  obtain ⟨R, hR⟩ : ∃ R, R = meetR ⟨⟨ax, ay⟩, ⟨bx, bY⟩⟩ ⟨⟨cx, cy⟩, ⟨dx, dy⟩⟩ := ⟨_, rfl⟩
  rw [← hR]
  unfold meetR at hR
  simp only at hR
  rw [hn, if_pos rfl] at hR
  have HA := hide (rseg_any ax ay bx bY)
  have HB := hide (rseg_any cx cy dx dy)
  simp only [nearL, Bool.and_true, Bool.and_eq_true] at hn
  obtain ⟨n1, n2, n3, n4⟩ := hn
  rw [n1, n2] at HA
  rw [n3, n4] at HB
  have hs := sgEq_iff ⟨⟨ax, ay⟩, ⟨bx, bY⟩⟩ ⟨⟨cx, cy⟩, ⟨dx, dy⟩⟩
  have h1 := ptEq_iff ⟨ax, ay⟩ ⟨dx, dy⟩
  have h2 := ptEq_iff ⟨bx, bY⟩ ⟨cx, cy⟩
  simp only at hs h1 h2
  obtain ⟨q0, hq0⟩ : ∃ q, sgEq ax ay bx bY cx cy dx dy = q := ⟨_, rfl⟩
  obtain ⟨q1, hq1⟩ : ∃ q, ptEq ax ay dx dy = q := ⟨_, rfl⟩
  obtain ⟨q2, hq2⟩ : ∃ q, ptEq bx bY cx cy = q := ⟨_, rfl⟩
  rw [hq0] at hs
  rw [hq1] at h1
  rw [hq2] at h2
  obtain ⟨S, hS⟩ : ∃ S, (q0 || (q1 && q2)) = S := ⟨_, rfl⟩
  have hsame : S = true ↔ ((⟨⟨ax, ay⟩, ⟨bx, bY⟩⟩ : Sg) = ⟨⟨cx, cy⟩, ⟨dx, dy⟩⟩ ∨ ((⟨ax, ay⟩ : Pt) = ⟨dx, dy⟩ ∧ (⟨bx, bY⟩ : Pt) = ⟨cx, cy⟩)) := by
    rw [← hS, hs, h1, h2]; simp only [Bool.or_eq_true, Bool.and_eq_true, decide_eq_true_eq]
  clear hs h1 h2 n1 n2 n3 n4
  have HSm := hide hsame
  have HR := hide hR
  have HS := hide hS
  have HQ0 := hide hq0
  have HQ1 := hide hq1
  have HQ2 := hide hq2
  clear hsame hR hS hq0 hq1 hq2
  obtain ⟨i0, hi, hz0, hz1, hz2⟩ := info_parts info_pt
  have HI := hide hi
  have HZ0 := hide hz0
  have HZ1 := hide hz1
  have HZ2 := hide hz2
  clear hi hz0 hz1 hz2
  go_enter Try.func30, Try.ntmps30
  go_wp2_with fail
  refine (HA.out _).mono ?_
  rintro _ w1 ⟨rfl, b1⟩
  have A1 := blkB b1 (new2 w _ _).1
  have B1 := blkB b1 (new2 w _ _).2.1
  have E1 := bto (new2 w _ _).2.2 b1
  clear b1
  obtain ⟨⟨d1, d2, d3, d4⟩, _⟩ := blk4 A1
  obtain ⟨⟨d5, d6, d7, d8⟩, _⟩ := blk4 B1
  go_wp2_with fail
  refine (HB.out _).mono ?_
  rintro _ w2 ⟨rfl, b2⟩
  have A2 := blkB b2 A1
  have B2 := blkB b2 B1
  have E2 := bto E1 b2
  clear d1 d2 d3 d4 d5 d6 d7 d8 A1 B1 E1 b2 HA HB
  obtain ⟨⟨d1, d2, d3, d4⟩, _⟩ := blk4 A2
  obtain ⟨⟨d5, d6, d7, d8⟩, _⟩ := blk4 B2
  go_upto_region 3 with (fail)
  go_cut [34] (fun s wx => s = .bool S ∧ w2 = wx)
  case first =>
    have z0 := HQ0.out
    have z1 := HQ1.out
    have z2 := HQ2.out
    clear HQ0 HQ1 HQ2
    cases q0 with
    | true => go_wp2_with fail; go_meet; exact ⟨vbool HS.out, rfl⟩
    | false =>
      cases q1 with
      | false => go_wp2_with fail; go_meet; exact ⟨vbool HS.out, rfl⟩
      | true => go_wp2_with fail; go_meet; exact ⟨vbool HS.out, rfl⟩
  case rest =>
    clear HQ0 HQ1 HQ2 HS
    obtain ⟨rfl, rfl⟩ := hcut
    cases S with
    | true =>
      have hr : R = 4 := by rw [HR.out, if_pos (HSm.out.1 rfl)]
      have HR2 := hide hr
      clear hr HR HSm
      go_wp2_with fail
      go_ret
      exact ⟨ret_int HR2.out.symm, E2⟩
    | false =>
      have hr := HR.out
      rw [if_neg (fun h => by have := HSm.out.2 h; exact absurd this (by decide))] at hr
      have HR2 := hide hr
      clear hr HR HSm
      obtain ⟨FULL, hF⟩ : ∃ L, comL (fun p => onS ⟨⟨ax, ay⟩, ⟨bx, bY⟩⟩ p && onS ⟨⟨cx, cy⟩, ⟨dx, dy⟩⟩ p) [] [⟨ax, ay⟩, ⟨bx, bY⟩, ⟨cx, cy⟩, ⟨dx, dy⟩] = L := ⟨_, rfl⟩
      have hr := HR2.out
      rw [hF] at hr
      have HR := hide hr
      have HF := hide hF
      clear hr HR2 hF
      have hsz := lt_of_block B2
      have hlt2 : w.heap.size + 2 ≤ w2.heap.size := by omega
      have hRM : RM w (w2.alloc (.cells #[.int .i64 ax, .int .i64 ay, .int .i64 bx, .int .i64 bY, .int .i64 cx, .int .i64 cy, .int .i64 dx, .int .i64 dy] 24)) w2.heap.size (.slice none 0 0) [] ax ay bx bY cx cy dx dy :=
        ⟨blkO _ A2, blkO _ B2, blkN _ _ _ rfl, World.ownsRow_nil _ _ _ _, E2.alloc E2.size _, hlt2⟩
      clear A2 B2 E2
      go_wp2_with fail
      clear d1 d2 d3 d4 d5 d6 d7 d8
      go_loopw [6, 7] (fun v i wr => ∃ (k : Nat) (C : List Pt), k ≤ 4 ∧ i = .int .i64 k ∧ C.length ≤ k ∧ RM w wr w2.heap.size v C ax ay bx bY cx cy dx dy ∧ Hid (comL (fun p => onS ⟨⟨ax, ay⟩, ⟨bx, bY⟩⟩ p && onS ⟨⟨cx, cy⟩, ⟨dx, dy⟩⟩ p) C (([⟨ax, ay⟩, ⟨bx, bY⟩, ⟨cx, cy⟩, ⟨dx, dy⟩] : List Pt).drop k) = FULL)) (fun _ i _ => 4 - (intOf i).toNat)
      case atStart => exact ⟨0, [], by omega, rfl, by simp, hRM, HF⟩
      case round =>
        obtain ⟨k, C, hk, rfl, hCk, hm, hrel⟩ := hrel
        obtain ⟨A, c, rfl⟩ := own_slice hm.own
        by_cases hlt : k < 4
        · obtain ⟨⟨ex, ey⟩, hp⟩ : ∃ p, ([⟨ax, ay⟩, ⟨bx, bY⟩, ⟨cx, cy⟩, ⟨dx, dy⟩] : List Pt)[k]? = some p := ⟨_, List.getElem?_eq_getElem (by simpa using hlt)⟩
          have hdrop : ([⟨ax, ay⟩, ⟨bx, bY⟩, ⟨cx, cy⟩, ⟨dx, dy⟩] : List Pt).drop k = ⟨ex, ey⟩ :: ([⟨ax, ay⟩, ⟨bx, bY⟩, ⟨cx, cy⟩, ⟨dx, dy⟩] : List Pt).drop (k + 1) := by
            have h4 : k < ([⟨ax, ay⟩, ⟨bx, bY⟩, ⟨cx, cy⟩, ⟨dx, dy⟩] : List Pt).length := by simpa using hlt
            rw [List.drop_eq_getElem_cons h4]
            rw [List.getElem?_eq_getElem h4, Option.some.injEq] at hp
            rw [hp]
          have HO1 := hide (ron_any ax ay bx bY ex ey)
          have HO2 := hide (ron_any cx cy dx dy ex ey)
          have hst := hrel.out
          rw [hdrop, comL] at hst
          generalize onS ⟨⟨ax, ay⟩, ⟨bx, bY⟩⟩ ⟨ex, ey⟩ = o1 at hst HO1
          generalize onS ⟨⟨cx, cy⟩, ⟨dx, dy⟩⟩ ⟨ex, ey⟩ = o2 at hst HO2
          have HST := hide hst
          have HP := hide hp
          obtain ⟨e1, e2⟩ := hm.end hp
          simp only at e1 e2
          have hM := hide hm
          have hk0 : (0 : Int) ≤ k := by omega
          have hk4 : (k : Int) < 4 := by omega
          have hC4 : C.length ≤ 4 := by omega
          clear hst hp hdrop hrel hm
          go_wp2_with fail
          go_loopw [8, 9] (fun tw j wr2 => ∃ (m : Nat) (b : Bool), m ≤ C.length ∧ j = .int .i64 m ∧ tw = .bool b ∧ (∃ n, wr2 = wr.drewN n) ∧ Hid (b = (C.take m).contains ⟨ex, ey⟩)) (fun _ j _ => C.length - (intOf j).toNat)
          case atStart => exact ⟨0, false, by omega, rfl, rfl, ⟨0, rfl⟩, by simp [Hid]⟩
          case round =>
            obtain ⟨m, b, hmC, rfl, rfl, ⟨n, rfl⟩, hb⟩ := hrel
            by_cases hm2 : m < C.length
            · obtain ⟨g, rfl, hcell⟩ := own_some hM.out.own (by omega)
              obtain ⟨⟨qx, qy⟩, hq⟩ : ∃ q, C[m] = q := ⟨_, rfl⟩
              obtain ⟨f1, f2⟩ := cellsP_get C m ⟨qx, qy⟩ (by rw [List.getElem?_eq_getElem hm2, hq])
              have f1 := hcell _ _ f1
              have f2 := hcell _ _ f2
              simp only at f1 f2
              obtain ⟨e, he⟩ : ∃ e, ptEq qx qy ex ey = e := ⟨_, rfl⟩
              have hnext := fun b' (hb' : b' = (b || e)) => hb'.trans (contains_snoc C m hm2 ⟨ex, ey⟩ b e hb.out (by
                have := ptEq_iff ⟨qx, qy⟩ ⟨ex, ey⟩
                simp only at this
                rw [hq, ← this]; exact he))
              have HN := hide hnext
              have hm0 : (0 : Int) ≤ m := by omega
              have hmi : (m : Int) < C.length := by omega
              clear hnext hb hcell hq
              cases b with
              | true =>
                clear he
                go_wp2_with fail
                go_quiet (fail)
                go_wp2_with fail
                refine ⟨⟨m + 1, true, by omega, by go_num, rfl, ⟨_, rfl⟩, HN.out _ rfl⟩, ?_⟩
                simp [intOf]; omega
              | false =>
                go_wp2_with fail
                go_quiet (fail)
                go_wp2_with fail
                refine ⟨⟨m + 1, e, by omega, by go_num, rfl, ⟨_, rfl⟩, HN.out _ rfl⟩, ?_⟩
                simp [intOf]; omega
            · obtain rfl : m = C.length := by omega
              have hb2 := hb.out
              rw [List.take_length] at hb2
              have HB2 := hide hb2
              have hmW := hM.out.lift (below_drewN' wr n)
              clear hb hb2 hM e1 e2 hmC hm2
              go_upto_region 15 with (fail)
              go_cut [83] (fun s wx => s = .bool (!b && (o1 && o2)) ∧ RM w wx w2.heap.size (.slice A C.length c) C ax ay bx bY cx cy dx dy)
              case first =>
                obtain ⟨Y9, Y10⟩ := RMs.end w w2.heap.size (.slice A C.length c) C ax ay bx bY cx cy dx dy HP.out
                simp only at Y9 Y10
                cases b with
                | true =>
                  obtain ⟨Y1, Y2, Y3, Y4, Y5, Y6, Y7, Y8⟩ := RMs.s w w2.heap.size (.slice A C.length c) C ax ay bx bY cx cy dx dy
                  have YN : Nonempty (RMs w w2.heap.size (.slice A C.length c) C ax ay bx bY cx cy dx dy) := ⟨⟨_, hmW.drew⟩⟩
                  refine wp_region_quietW (J := RMs w w2.heap.size (.slice A C.length c) C ax ay bx bY cx cy dx dy) RMs.w ⟨_, hmW.drew⟩ rfl (by kernel_rfl) (by kernel_rfl) ?_
                  repeat (go_big_quiet_step ((first | ((with_reducible refine (HO1.out _).mono ?_); rintro _ w8 ⟨rfl, b8⟩; exact ⟨rfl, RMs.go _ b8⟩))))
                  refine wpQuiet_nil ?_
                  rintro w9 ⟨u, rfl⟩
                  have hm9 : RM w u.w w2.heap.size (.slice A C.length c) C ax ay bx bY cx cy dx dy := u.2
                  clear YN Y1 Y2 Y3 Y4 Y5 Y6 Y7 Y8
                  go_wp2_with fail
                  go_meet
                  exact ⟨rfl, hm9⟩
                | false =>
                  cases o1 with
                  | true =>
                    obtain ⟨Y1, Y2, Y3, Y4, Y5, Y6, Y7, Y8⟩ := RMs.s w w2.heap.size (.slice A C.length c) C ax ay bx bY cx cy dx dy
                    have YN : Nonempty (RMs w w2.heap.size (.slice A C.length c) C ax ay bx bY cx cy dx dy) := ⟨⟨_, hmW.drew⟩⟩
                    refine wp_region_quietW (J := RMs w w2.heap.size (.slice A C.length c) C ax ay bx bY cx cy dx dy) RMs.w ⟨_, hmW.drew⟩ rfl (by kernel_rfl) (by kernel_rfl) ?_
                    repeat (go_big_quiet_step ((first | ((with_reducible refine (HO1.out _).mono ?_); rintro _ w8 ⟨rfl, b8⟩; exact ⟨rfl, RMs.go _ b8⟩) | ((with_reducible refine (HO2.out _).mono ?_); rintro _ w8 ⟨rfl, b8⟩; exact ⟨rfl, RMs.go _ b8⟩))))
                    refine wpQuiet_nil ?_
                    rintro w9 ⟨u, rfl⟩
                    have hm9 : RM w u.w w2.heap.size (.slice A C.length c) C ax ay bx bY cx cy dx dy := u.2
                    clear YN Y1 Y2 Y3 Y4 Y5 Y6 Y7 Y8
                    go_wp2_with fail
                    go_meet
                    exact ⟨rfl, hm9⟩
                  | false =>
                    obtain ⟨Y1, Y2, Y3, Y4, Y5, Y6, Y7, Y8⟩ := RMs.s w w2.heap.size (.slice A C.length c) C ax ay bx bY cx cy dx dy
                    have YN : Nonempty (RMs w w2.heap.size (.slice A C.length c) C ax ay bx bY cx cy dx dy) := ⟨⟨_, hmW.drew⟩⟩
                    refine wp_region_quietW (J := RMs w w2.heap.size (.slice A C.length c) C ax ay bx bY cx cy dx dy) RMs.w ⟨_, hmW.drew⟩ rfl (by kernel_rfl) (by kernel_rfl) ?_
                    repeat (go_big_quiet_step ((first | ((with_reducible refine (HO1.out _).mono ?_); rintro _ w8 ⟨rfl, b8⟩; exact ⟨rfl, RMs.go _ b8⟩))))
                    refine wpQuiet_nil ?_
                    rintro w9 ⟨u, rfl⟩
                    have hm9 : RM w u.w w2.heap.size (.slice A C.length c) C ax ay bx bY cx cy dx dy := u.2
                    clear YN Y1 Y2 Y3 Y4 Y5 Y6 Y7 Y8
                    go_wp2_with fail
                    go_meet
                    exact ⟨rfl, hm9⟩
              case rest =>
                clear hmW HO1 HO2
                obtain ⟨rfl, hm⟩ := hcut
                have hst := HST.out
                rw [← HB2.out] at hst
                obtain ⟨X, hX⟩ : ∃ X, (!b && (o1 && o2)) = X := ⟨_, rfl⟩
                rw [hX] at hst ⊢
                have HST2 := hide hst
                clear hst HST HB2 hX
                cases X with
                | false =>
                  go_wp2_with fail
                  refine ⟨⟨k + 1, C, by omega, by go_num, by omega, hm, HST2.out⟩, ?_⟩
                  simp [intOf]; omega
                | true =>
                  obtain ⟨e1, e2⟩ := hm.end HP.out
                  simp only at e1 e2
                  go_wp2_with (at_builtin; go_must (refine wpList_append_own _ rfl (.tmp 84) (.tmp 89) 22 rfl (w2.heap.size + 1) 24 i0 (.agg #[.int .i64 0, .int .i64 0]) 2 16 Try.underlying22 HI.out HZ0.out HZ1.out HZ2.out rfl (by decide) (.slice A C.length c) C.length (cellsP C) rfl ?c0 ⟨wc.heap.size, 0, none⟩ 1 1 [.int .i64 ex, .int .i64 ey] rfl rfl ?c1 ?c2 ?c3 ?c4 ?c5 ?_))
                  case c0 => exact hm.own.alloc _
                  case c2 => exact ⟨rfl, rfl⟩
                  case c3 => unfold maxLen; omega
                  case c4 => omega
                  case c5 => have := lt_of_block hm.e; simp; omega
                  intro v' w9 hown' hgrow _
                  have hm9 := RM.appended (p := ⟨ex, ey⟩) hm hgrow hown'
                  clear hgrow hown' hm e1 e2
                  go_wp2_with fail
                  refine ⟨⟨k + 1, C ++ [⟨ex, ey⟩], by omega, by go_num, by simp; omega, hm9, ?_⟩, ?_⟩
                  · have h := HST2.out
                    first | exact h | (rw [if_pos trivial] at h; exact h) | (rw [if_pos rfl] at h; exact h)
                  simp [intOf]; omega
        · obtain rfl : k = 4 := by omega
          have hC := hrel.out
          rw [show ([⟨ax, ay⟩, ⟨bx, bY⟩, ⟨cx, cy⟩, ⟨dx, dy⟩] : List Pt).drop 4 = [] from rfl, comL] at hC
          subst hC
          clear hrel HF HI HZ0 HZ1 HZ2 hk hlt
          cases C with
          | nil =>
            have HR0 := hide HR.out
            simp only at HR0
            have HO1 := hide (rorient_any ax ay bx bY cx cy)
            have HO2 := hide (rorient_any ax ay bx bY dx dy)
            have HO3 := hide (rorient_any cx cy dx dy ax ay)
            have HO4 := hide (rorient_any cx cy dx dy bx bY)
            have hr := HR0.out
            unfold apartB at hr
            simp only at hr
            have p1 := orient_prod ⟨ax, ay⟩ ⟨bx, bY⟩ ⟨cx, cy⟩ ⟨ax, ay⟩ ⟨bx, bY⟩ ⟨dx, dy⟩
            have p2 := orient_prod ⟨cx, cy⟩ ⟨dx, dy⟩ ⟨ax, ay⟩ ⟨cx, cy⟩ ⟨dx, dy⟩ ⟨bx, bY⟩
            generalize orient ⟨ax, ay⟩ ⟨bx, bY⟩ ⟨cx, cy⟩ = r1 at *
            generalize orient ⟨ax, ay⟩ ⟨bx, bY⟩ ⟨dx, dy⟩ = r2 at *
            generalize orient ⟨cx, cy⟩ ⟨dx, dy⟩ ⟨ax, ay⟩ = r3 at *
            generalize orient ⟨cx, cy⟩ ⟨dx, dy⟩ ⟨bx, bY⟩ = r4 at *
            obtain ⟨X1, hX1⟩ : ∃ b, decide (r1 * r2 < 0) = b := ⟨_, rfl⟩
            obtain ⟨X2, hX2⟩ : ∃ b, decide (r3 * r4 < 0) = b := ⟨_, rfl⟩
            rw [hX1, hX2] at hr
            have HR3 := hide hr
            have HX1 := hide hX1
            have HX2 := hide hX2
            clear hr HR HR0 hX1 hX2
            have hM := hide hm
            clear hm
            go_upto_region 23 with (fail)
            go_cut [142] (fun s wx => s = .bool (X1 && X2) ∧ Below w.heap.size w wx)
            case first =>
              have a1 := HX1.out
              have a2 := HX2.out
              clear HX1 HX2 HR3
              cases X1 with
              | true =>
                obtain ⟨Y1, Y2, Y3, Y4, Y5, Y6, Y7, Y8⟩ := RMs.s w w2.heap.size (.slice A 0 c) [] ax ay bx bY cx cy dx dy
                have YN : Nonempty (RMs w w2.heap.size (.slice A 0 c) [] ax ay bx bY cx cy dx dy) := ⟨⟨_, hM.out.drew⟩⟩
                refine wp_region_quietW (J := RMs w w2.heap.size (.slice A 0 c) [] ax ay bx bY cx cy dx dy) RMs.w ⟨_, hM.out.drew⟩ rfl (by kernel_rfl) (by kernel_rfl) ?_
                repeat (go_big_quiet_step ((first | ((with_reducible refine (HO1.out _).mono ?_); rintro _ w8 ⟨rfl, b8⟩; exact ⟨rfl, RMs.go _ b8⟩) | ((with_reducible refine (HO2.out _).mono ?_); rintro _ w8 ⟨rfl, b8⟩; exact ⟨rfl, RMs.go _ b8⟩) | ((with_reducible refine (HO3.out _).mono ?_); rintro _ w8 ⟨rfl, b8⟩; exact ⟨rfl, RMs.go _ b8⟩) | ((with_reducible refine (HO4.out _).mono ?_); rintro _ w8 ⟨rfl, b8⟩; exact ⟨rfl, RMs.go _ b8⟩))))
                refine wpQuiet_nil ?_
                rintro w9 ⟨u, rfl⟩
                have hm9 : RM w u.w w2.heap.size (.slice A 0 c) [] ax ay bx bY cx cy dx dy := u.2
                clear YN Y1 Y2 Y3 Y4 Y5 Y6 Y7 Y8
                go_wp2_with fail
                go_meet
                exact ⟨rfl, hm9.below⟩
              | false =>
                obtain ⟨Y1, Y2, Y3, Y4, Y5, Y6, Y7, Y8⟩ := RMs.s w w2.heap.size (.slice A 0 c) [] ax ay bx bY cx cy dx dy
                have YN : Nonempty (RMs w w2.heap.size (.slice A 0 c) [] ax ay bx bY cx cy dx dy) := ⟨⟨_, hM.out.drew⟩⟩
                refine wp_region_quietW (J := RMs w w2.heap.size (.slice A 0 c) [] ax ay bx bY cx cy dx dy) RMs.w ⟨_, hM.out.drew⟩ rfl (by kernel_rfl) (by kernel_rfl) ?_
                repeat (go_big_quiet_step ((first | ((with_reducible refine (HO1.out _).mono ?_); rintro _ w8 ⟨rfl, b8⟩; exact ⟨rfl, RMs.go _ b8⟩) | ((with_reducible refine (HO2.out _).mono ?_); rintro _ w8 ⟨rfl, b8⟩; exact ⟨rfl, RMs.go _ b8⟩))))
                refine wpQuiet_nil ?_
                rintro w9 ⟨u, rfl⟩
                have hm9 : RM w u.w w2.heap.size (.slice A 0 c) [] ax ay bx bY cx cy dx dy := u.2
                clear YN Y1 Y2 Y3 Y4 Y5 Y6 Y7 Y8
                go_wp2_with fail
                go_meet
                exact ⟨rfl, hm9.below⟩
            case rest =>
              obtain ⟨rfl, hb⟩ := hcut
              clear HO1 HO2 HO3 HO4 HX1 HX2 p1 p2
              obtain ⟨X, hX⟩ : ∃ X, (X1 && X2) = X := ⟨_, rfl⟩
              have hr := HR3.out
              rw [hX] at hr ⊢
              cases X with
              | true =>
                have HR4 : Hid (R = 3) := hr
                clear hr HR3 hX
                go_wp2_with fail
                go_ret
                exact ⟨ret_int HR4.out.symm, hb⟩
              | false =>
                have HR4 : Hid (R = 0) := hr
                clear hr HR3 hX
                go_wp2_with fail
                go_ret
                exact ⟨ret_int HR4.out.symm, hb⟩
          | cons c0 C =>
            cases C with
            | nil =>
              obtain ⟨px, py⟩ := c0
              have hr := HR.out
              simp only at hr
              have E1 := ptEq_iff ⟨px, py⟩ ⟨ax, ay⟩
              have E2 := ptEq_iff ⟨px, py⟩ ⟨bx, bY⟩
              have E3 := ptEq_iff ⟨px, py⟩ ⟨cx, cy⟩
              have E4 := ptEq_iff ⟨px, py⟩ ⟨dx, dy⟩
              simp only at E1 E2 E3 E4
              have HO1 := hide (rend_any ax ay bx bY px py)
              have HO2 := hide (rend_any cx cy dx dy px py)
              have k1 : (ptEq px py ax ay || ptEq px py bx bY) = true ↔ ((⟨px, py⟩ : Pt) = ⟨ax, ay⟩ ∨ (⟨px, py⟩ : Pt) = ⟨bx, bY⟩) := by rw [E1, E2]; simp only [Bool.or_eq_true, decide_eq_true_eq]
              have k2 : (ptEq px py cx cy || ptEq px py dx dy) = true ↔ ((⟨px, py⟩ : Pt) = ⟨cx, cy⟩ ∨ (⟨px, py⟩ : Pt) = ⟨dx, dy⟩) := by rw [E3, E4]; simp only [Bool.or_eq_true, decide_eq_true_eq]
              generalize (ptEq px py ax ay || ptEq px py bx bY) = X1 at *
              generalize (ptEq px py cx cy || ptEq px py dx dy) = X2 at *
              have hr2 : R = if (X1 && X2) = true then 1 else 2 := by
                have e := Bool.and_eq_true X1 X2
                by_cases hc : (X1 && X2) = true
                · rw [if_pos hc, hr]
                  have h := e.mp hc
                  exact if_pos ⟨k1.1 h.1, k2.1 h.2⟩
                · rw [if_neg hc, hr]
                  exact if_neg fun h => hc (e.mpr ⟨k1.2 h.1, k2.2 h.2⟩)
              have HR3 := hide hr2
              obtain ⟨g, rfl, hcell⟩ := RMs.own w w2.heap.size A c [⟨px, py⟩] ax ay bx bY cx cy dx dy (by simp) ⟨_, hm⟩
              have hM := hide hm
              clear hm hr hr2 HR k1 k2 E1 E2 E3 E4
              go_upto_region 20 with (fail)
              go_cut [108] (fun s wx => s = .bool (X1 && X2) ∧ Below w.heap.size w wx)
              case first =>
                have Y9 := hcell 0 (.int .i64 px) rfl
                have Y10 := hcell 1 (.int .i64 py) rfl
                clear hcell HR3
                cases X1 with
                | true =>
                  obtain ⟨Y1, Y2, Y3, Y4, Y5, Y6, Y7, Y8⟩ := RMs.s w w2.heap.size (.slice (some ⟨g, 0, none⟩) 1 c) [⟨px, py⟩] ax ay bx bY cx cy dx dy
                  have YN : Nonempty (RMs w w2.heap.size (.slice (some ⟨g, 0, none⟩) 1 c) [⟨px, py⟩] ax ay bx bY cx cy dx dy) := ⟨⟨_, hM.out.drew⟩⟩
                  refine wp_region_quietW (J := RMs w w2.heap.size (.slice (some ⟨g, 0, none⟩) 1 c) [⟨px, py⟩] ax ay bx bY cx cy dx dy) RMs.w ⟨_, hM.out.drew⟩ rfl (by kernel_rfl) (by kernel_rfl) ?_
                  repeat (go_big_quiet_step ((first | ((with_reducible refine (HO1.out _).mono ?_); rintro _ w8 ⟨rfl, b8⟩; exact ⟨rfl, RMs.go _ b8⟩) | ((with_reducible refine (HO2.out _).mono ?_); rintro _ w8 ⟨rfl, b8⟩; exact ⟨rfl, RMs.go _ b8⟩))))
                  refine wpQuiet_nil ?_
                  rintro w9 ⟨u, rfl⟩
                  have hm9 : RM w u.w w2.heap.size (.slice (some ⟨g, 0, none⟩) 1 c) [⟨px, py⟩] ax ay bx bY cx cy dx dy := u.2
                  clear YN Y1 Y2 Y3 Y4 Y5 Y6 Y7 Y8
                  go_wp2_with fail
                  go_meet
                  exact ⟨rfl, hm9.below⟩
                | false =>
                  obtain ⟨Y1, Y2, Y3, Y4, Y5, Y6, Y7, Y8⟩ := RMs.s w w2.heap.size (.slice (some ⟨g, 0, none⟩) 1 c) [⟨px, py⟩] ax ay bx bY cx cy dx dy
                  have YN : Nonempty (RMs w w2.heap.size (.slice (some ⟨g, 0, none⟩) 1 c) [⟨px, py⟩] ax ay bx bY cx cy dx dy) := ⟨⟨_, hM.out.drew⟩⟩
                  refine wp_region_quietW (J := RMs w w2.heap.size (.slice (some ⟨g, 0, none⟩) 1 c) [⟨px, py⟩] ax ay bx bY cx cy dx dy) RMs.w ⟨_, hM.out.drew⟩ rfl (by kernel_rfl) (by kernel_rfl) ?_
                  repeat (go_big_quiet_step ((first | ((with_reducible refine (HO1.out _).mono ?_); rintro _ w8 ⟨rfl, b8⟩; exact ⟨rfl, RMs.go _ b8⟩))))
                  refine wpQuiet_nil ?_
                  rintro w9 ⟨u, rfl⟩
                  have hm9 : RM w u.w w2.heap.size (.slice (some ⟨g, 0, none⟩) 1 c) [⟨px, py⟩] ax ay bx bY cx cy dx dy := u.2
                  clear YN Y1 Y2 Y3 Y4 Y5 Y6 Y7 Y8
                  go_wp2_with fail
                  go_meet
                  exact ⟨rfl, hm9.below⟩
              case rest =>
                obtain ⟨rfl, hb⟩ := hcut
                clear HO1 HO2 hcell
                obtain ⟨X, hX⟩ : ∃ X, (X1 && X2) = X := ⟨_, rfl⟩
                have hr := HR3.out
                rw [hX] at hr ⊢
                cases X with
                | true =>
                  have HR4 : Hid (R = 1) := hr
                  clear hr HR3 hX
                  go_wp2_with fail
                  go_ret
                  exact ⟨ret_int HR4.out.symm, hb⟩
                | false =>
                  have HR4 : Hid (R = 2) := hr
                  clear hr HR3 hX
                  go_wp2_with fail
                  go_ret
                  exact ⟨ret_int HR4.out.symm, hb⟩
            | cons c1 C =>
              have HR4 : Hid (R = 5) := HR.out
              have hb := hm.below
              clear hm HR
              simp only [List.length_cons]
              go_wp2_with fail
              go_ret
              exact ⟨ret_int HR4.out.symm, hb⟩

set_option maxHeartbeats 1000000 in
theorem rmeets_any (ax ay bx bY cx cy dx dy : Int) (w : World) : Calls Try.prog 30 #[.agg #[.int .i64 ax, .int .i64 ay, .int .i64 bx, .int .i64 bY], .agg #[.int .i64 cx, .int .i64 cy, .int .i64 dx, .int .i64 dy]] w fun e w' => e = .returned (.int .i64 (meets ⟨⟨ax, ay⟩, ⟨bx, bY⟩⟩ ⟨⟨cx, cy⟩, ⟨dx, dy⟩⟩)) ∧ Below w.heap.size w w' := by
  cases hn : nearL [⟨ax, ay⟩, ⟨bx, bY⟩, ⟨cx, cy⟩, ⟨dx, dy⟩] with
  | true => rw [meetR_meets]; exact rmeets_in ax ay bx bY cx cy dx dy w hn
  | false =>
    have hR : meets ⟨⟨ax, ay⟩, ⟨bx, bY⟩⟩ ⟨⟨cx, cy⟩, ⟨dx, dy⟩⟩ = 0 := meets_far _ _ hn
    rw [hR]
    have HA := hide (rseg_any ax ay bx bY)
    have HB := hide (rseg_any cx cy dx dy)
    simp only [nearL, Bool.and_true] at hn
    rw [← Bool.and_assoc] at hn
    generalize (nearB ⟨ax, ay⟩ && nearB ⟨bx, bY⟩) = p at *
    cases p with
    | false =>
      clear hn hR
      go_enter Try.func30, Try.ntmps30
      go_wp2_with fail
      refine (HA.out _).mono ?_
      rintro _ w1 ⟨rfl, b1⟩
      go_wp2_with fail
      go_ret
      exact ⟨rfl, bto (new2 w _ _).2.2 b1⟩
    | true =>
      rw [Bool.true_and] at hn
      rw [hn] at HB
      clear hn hR
      go_enter Try.func30, Try.ntmps30
      go_wp2_with fail
      refine (HA.out _).mono ?_
      rintro _ w1 ⟨rfl, b1⟩
      obtain ⟨⟨d1, d2, d3, d4⟩, _⟩ := blk4 (blkB b1 (new2 w _ _).2.1)
      go_wp2_with fail
      refine (HB.out _).mono ?_
      rintro _ w2 ⟨rfl, b2⟩
      go_wp2_with fail
      go_ret
      exact ⟨rfl, bto (bto (new2 w _ _).2.2 b1) b2⟩
end Go.Proofs.Ytmklnioedeailaa
