/-
  RingMoves, walked: it returns true.
-/
import Derived.Test.YtmklnioedeailaaRngP
import Derived.Test.YtmklnioedeailaaRPlain9
import Derived.StillTailTactics
namespace Go.Proofs.Ytmklnioedeailaa
open Go.RowKit Go.Proofs.PlGeom Go.Proofs.PlRing
attribute [local go_sem ↓] Go.wp_at_zero Go.wp_at_succ

section
variable {P : Program} (w : World)
/-- append of the slice nil. -/
theorem run_append_nil (t ty e : TypeId) (i : TypeInfo) (ht : P.underlying t = some (.slice e)) (hi : P.info? e = some i) (base size : Nat) (v : Value) (n : Nat) (xs : List Value) (hown : w.ownsRow base e size v n xs) (c : Nat) :
    (Builtin.append_ #[t, t] ty #[v, .slice none 0 c]).run P w = .ok v w := by
  rcases hown.2 with ⟨rfl, rfl⟩ | ⟨g, cap, cur, rfl, _, _, hnc, _⟩
  · simp [Builtin.append_, run_underlying ht, sizeOf, typeInfo, hi, Builtin.lenOf, Builtin.firstCells]
  · simp [Builtin.append_, run_underlying ht, sizeOf, typeInfo, hi, Builtin.lenOf, Builtin.firstCells, hnc, storeCells]
/-- append of whatever slice came in, onto a row of the call's own. -/
theorem wpList_append_src {ops : Array Oper} {rest : List Oper} {o : Oper} {a : Act} {Q : Exit → Act → World → Prop} (hgd : o.guard = none) (s x : Operand) (t : TypeId)
    (ho : o.op = .call { callee := .builtin .append, args := #[s, x], argTypes := #[t, t] })
    (base : Nat) (e : TypeId) (i : TypeInfo) (z : Value) (size bytes : Nat) (ht : P.underlying t = some (.slice e)) (hi : P.info? e = some i) (hz : i.zero = some z)
    (hsize : i.size = size) (hby : i.bytes = bytes) (hzs : z.cells.size = size) (hsz : 0 < size)
    (v : Value) (n : Nat) (xs : List Value) (hs : a.eval s = v) (hown : w.ownsRow base e size v n xs)
    (A : Option Addr) (m c : Nat) (news : List Value) (hx : a.eval x = .slice A m c) (hl : news.length = m * size) (hA : A = none → m = 0) (hnews : ∀ ad, A = some ad → ∀ j u, news[j]? = some u → w.cell? (ad.add j) = some u) (h1 : ∀ u ∈ news, u.oneCell' = true)
    (h63 : n + m ≤ maxLen) (hbytes : (n + m) * bytes ≤ 140737488355328) (hbase : base ≤ w.heap.size)
    (h : ∀ v' w', w'.ownsRow base e size v' (n + m) (xs ++ news) → w.grownBy w' v.ownBlock → wpList P ops Q rest (a.put o.dst v') w') : wpList P ops Q (o :: rest) a w := by
  refine wpList_plain hgd fun K hK => ?_
  have hrun : ∃ v' w', (Builtin.append_ #[t, t] o.type #[v, .slice A m c]).run P w = .ok v' w' ∧ w'.ownsRow base e size v' (n + m) (xs ++ news) ∧ w.grownBy w' v.ownBlock := by
    cases A with
    | none =>
      have hm := hA rfl
      subst hm
      have hn : news = [] := List.eq_nil_of_length_eq_zero (by simpa using hl)
      subst hn
      exact ⟨v, w, run_append_nil w t o.type e i ht hi base size v n xs hown c, by simpa using hown, World.grownBy.refl w _⟩
    | some ad =>
      obtain ⟨v', w', hr, h2, h3, _, _⟩ := run_append_own_at (P := P) w base t o.type e i z size bytes ht hi hz hsize hby hzs hsz v n xs hown ad m c news hl (hnews ad rfl) h1 h63 hbytes hbase
      exact ⟨v', w', hr, h2, h3⟩
  obtain ⟨v', w', hr, h2, h3⟩ := hrun
  unfold Oper.wp execOp
  simp only [ho, resolve, invoke, builtin, Sem.run_bind, Sem.run_pure, Result.andThen_ok, List.map_toArray, List.map_cons, List.map_nil, hs, hx, hr]
  exact hK _ _ (h v' w' h2 h3)
end

/-- What a slice of points hands to append. -/
theorem SlC.src {W : World} {v : Value} {r : List Pt} (h : SlC W v r) : ∃ A c, v = .slice A r.length c ∧ (A = none → r.length = 0) ∧ ∀ ad, A = some ad → ∀ j u, (cellsP r)[j]? = some u → W.cell? (ad.add j) = some u := by
  obtain ⟨A, c, hv, _, h⟩ := h
  refine ⟨A, c, hv, fun e => ?_, fun ad e => ?_⟩
  · rcases h with h | ⟨g, o, h, _⟩
    · rw [h]; rfl
    · rw [e] at h; cases h
  · rcases h with h | ⟨g, o, h, _, hp⟩
    · subst h; intro j u hj; simp [cellsP] at hj
    · rw [e] at h
      cases h
      exact pts_news hp

/-- A row of points in a block of the call's own. -/
structure RowP (w : World) (g : Nat) (L : List Pt) (wx : World) : Prop where
  row : ∃ cur : Array Value, wx.heap[g]? = some (.cells cur 24 (0, 0)) ∧ L.length * 2 ≤ cur.size ∧ cur.toList.take (L.length * 2) = cellsP L
  lo : w.heap.size ≤ g
  below : Below w.heap.size w wx
theorem RowP.lift {w : World} {g : Nat} {L : List Pt} {wx wy : World} (h : RowP w g L wx) (hb : Below wx.heap.size wx wy) : RowP w g L wy := by
  obtain ⟨cur, h1, h2, h3⟩ := h.row
  exact ⟨⟨cur, blkB hb h1, h2, h3⟩, h.lo, bto h.below hb⟩
theorem RowP.lt {w : World} {g : Nat} {L : List Pt} {wx : World} (h : RowP w g L wx) : g < wx.heap.size := by
  obtain ⟨cur, h1, _⟩ := h.row
  exact lt_of_block h1
theorem RowP.pts {w : World} {g : Nat} {L : List Pt} {wx : World} (h : RowP w g L wx) : PtsO wx g 0 L := by
  obtain ⟨cur, h1, h2, h3⟩ := h.row
  intro i p hp
  have hi : i < L.length := (List.getElem?_eq_some_iff.1 hp).1
  obtain ⟨e1, e2⟩ := cellsP_get L i p hp
  rw [← h3, List.getElem?_take_of_lt (by omega)] at e1 e2
  rw [Nat.zero_add, cell_of_row wx g _ cur _ (0, 0) h1, cell_of_row wx g _ cur _ (0, 0) h1]
  exact ⟨by simpa using e1, by simpa using e2⟩
theorem RowP.frozen {w : World} {g : Nat} {L : List Pt} {wx : World} (h : RowP w g L wx) (i : Nat) : wx.frozen? ⟨g, i, none⟩ = false := by
  obtain ⟨cur, h1, _⟩ := h.row
  simp [World.frozen?, h1]
theorem cellsP_set (L : List Pt) (i : Nat) (p q : Pt) (hp : L[i]? = some p) : cellsP (L.set i q) = ((cellsP L).set (i * 2) (.int .i64 q.x)).set (i * 2 + 1) (.int .i64 q.y) := by
  induction L generalizing i with
  | nil => simp at hp
  | cons a L ih =>
    cases i with
    | zero => rfl
    | succ i =>
      have e : ∀ (b : Pt) M, cellsP (b :: M) = .int .i64 b.x :: .int .i64 b.y :: cellsP M := fun b M => rfl
      rw [List.set_cons_succ, e, e, ih i (by simpa using hp), show (i + 1) * 2 = i * 2 + 1 + 1 from by omega, show i * 2 + 1 + 1 + 1 = (i * 2 + 1) + 1 + 1 from rfl]
      simp only [List.set_cons_succ]
theorem set_same {α : Type} (l : List α) (i : Nat) (a : α) (h : l[i]? = some a) : l.set i a = l := by
  apply List.ext_getElem?
  intro j
  rw [List.getElem?_set]
  split
  · rename_i e
    subst e
    have hi := (List.getElem?_eq_some_iff.1 h).1
    rw [if_pos hi, h]
  · rfl
theorem RowP.setX {w : World} {g : Nat} {L : List Pt} {wx : World} (h : RowP w g L wx) (i : Nat) (p : Pt) (hp : L[i]? = some p) (x : Int) : RowP w g (L.set i ⟨x, p.y⟩) (wx.setCell ⟨g, i * 2, none⟩ (.int .i64 x)) := by
  obtain ⟨cur, h1, h2, h3⟩ := h.row
  have hi : i < L.length := (List.getElem?_eq_some_iff.1 hp).1
  refine ⟨⟨cur.setIfInBounds (i * 2) (.int .i64 x), by simp [World.setCell, Array.getElem?_modify, h1], by simpa using h2, ?_⟩, h.lo, h.below.setCell h.lo _⟩
  rw [cellsP_set L i p _ hp, List.length_set, Array.toList_setIfInBounds, List.take_set, h3]
  obtain ⟨_, e2⟩ := cellsP_get L i p hp
  have : ((cellsP L).set (i * 2) (.int .i64 x))[i * 2 + 1]? = some (.int .i64 p.y) := by rw [List.getElem?_set_ne (by omega)]; exact e2
  exact (set_same _ _ _ this).symm
theorem RowP.setY {w : World} {g : Nat} {L : List Pt} {wx : World} (h : RowP w g L wx) (i : Nat) (p : Pt) (hp : L[i]? = some p) (y : Int) : RowP w g (L.set i ⟨p.x, y⟩) (wx.setCell ⟨g, i * 2 + 1, none⟩ (.int .i64 y)) := by
  obtain ⟨cur, h1, h2, h3⟩ := h.row
  have hi : i < L.length := (List.getElem?_eq_some_iff.1 hp).1
  refine ⟨⟨cur.setIfInBounds (i * 2 + 1) (.int .i64 y), by simp [World.setCell, Array.getElem?_modify, h1], by simpa using h2, ?_⟩, h.lo, h.below.setCell h.lo _⟩
  rw [cellsP_set L i p _ hp, List.length_set, Array.toList_setIfInBounds, List.take_set, h3]
  obtain ⟨e1, _⟩ := cellsP_get L i p hp
  rw [set_same _ _ _ e1]
theorem row_of_own {w W : World} {g cap : Nat} {L : List Pt} (h : W.ownsRow w.heap.size 24 2 (.slice (some ⟨g, 0, none⟩) L.length cap) L.length (cellsP L)) (hb : Below w.heap.size w W) : RowP w g L W := by
  rcases h.2 with ⟨h1, _⟩ | ⟨g', cap', cur, h1, h2, h3, h4, _, h5, h6⟩
  · cases h1
  · cases h1
    exact ⟨⟨cur, h3, by omega, h6⟩, h2, hb⟩

/-- The first k points moved. -/
def upMv (d : Pt) (L : List Pt) (k : Nat) : List Pt := (L.take k).map (mv d) ++ L.drop k
theorem upMv_len (d : Pt) (L : List Pt) (k : Nat) (h : k ≤ L.length) : (upMv d L k).length = L.length := by simp [upMv]; omega
theorem upMv_get (d : Pt) (L : List Pt) (k : Nat) (h : k < L.length) : (upMv d L k)[k]? = some (at0 L k) := by
  unfold upMv
  rw [List.getElem?_append_right (by simp; omega), List.length_map, List.length_take, Nat.min_eq_left (by omega), Nat.sub_self, List.getElem?_drop, Nat.add_zero]
  exact at0_some L k h
theorem upMv_succ (d : Pt) (L : List Pt) (k : Nat) (h : k < L.length) : upMv d L (k + 1) = (upMv d L k).set k (mv d (at0 L k)) := by
  unfold upMv
  rw [List.set_append_right _ _ (by simp; omega), List.length_map, List.length_take, Nat.min_eq_left (by omega), Nat.sub_self, dropP L k h]
  have e := at0_some L k h
  rw [List.getElem?_eq_getElem h, Option.some.injEq] at e
  rw [List.take_succ_eq_append_getElem h, e]
  simp
theorem upMv_all (d : Pt) (L : List Pt) : upMv d L L.length = mvR d L := by simp [upMv, mvR]

/-- The memory of RingMoves: the point and the distance in boxes, all points in a row. -/
structure MvB (w w1 : World) (px py dx dy : Int) (g : Nat) (L : List Pt) (wx : World) : Prop where
  p : wx.heap[w.heap.size]? = some (.cells #[.int .i64 px, .int .i64 py] 24 (0, 0))
  d : wx.heap[w.heap.size + 1]? = some (.cells #[.int .i64 dx, .int .i64 dy] 24 (0, 0))
  row : RowP w1 g L wx
  below : Below w.heap.size w wx
  lo : w.heap.size + 2 ≤ w1.heap.size
theorem MvB.lift {w w1 : World} {px py dx dy : Int} {g : Nat} {L : List Pt} {wx wy : World} (h : MvB w w1 px py dx dy g L wx) (hb : Below wx.heap.size wx wy) : MvB w w1 px py dx dy g L wy :=
  ⟨blkB hb h.p, blkB hb h.d, h.row.lift hb, bto h.below hb, h.lo⟩
theorem MvB.setX {w w1 : World} {px py dx dy : Int} {g : Nat} {L : List Pt} {wx : World} (h : MvB w w1 px py dx dy g L wx) (i : Nat) (q : Pt) (hq : L[i]? = some q) (x : Int) : MvB w w1 px py dx dy g (L.set i ⟨x, q.y⟩) (wx.setCell ⟨g, i * 2, none⟩ (.int .i64 x)) := by
  have := h.lo
  have := h.row.lo
  exact ⟨blkS _ _ h.p (by omega), blkS _ _ h.d (by omega), h.row.setX i q hq x, h.below.setCell (by simp; omega) _, h.lo⟩
theorem MvB.setY {w w1 : World} {px py dx dy : Int} {g : Nat} {L : List Pt} {wx : World} (h : MvB w w1 px py dx dy g L wx) (i : Nat) (q : Pt) (hq : L[i]? = some q) (y : Int) : MvB w w1 px py dx dy g (L.set i ⟨q.x, y⟩) (wx.setCell ⟨g, i * 2 + 1, none⟩ (.int .i64 y)) := by
  have := h.lo
  have := h.row.lo
  exact ⟨blkS _ _ h.p (by omega), blkS _ _ h.d (by omega), h.row.setY i q hq y, h.below.setCell (by simp; omega) _, h.lo⟩

set_option maxRecDepth 100000 in
set_option maxHeartbeats 8000000 in
theorem moves_small (r s : List Pt) (v v2 : Value) (px py dx dy : Int) (w : World) (hv : SlC w v r) (hv2 : SlC w v2 s) (hr : r.length ≤ 40) (hs : s.length ≤ 40) :
    Calls Try.prog 9 #[v, v2, .agg #[.int .i64 px, .int .i64 py], .agg #[.int .i64 dx, .int .i64 dy]] w fun e w' => e = .returned (.bool true) ∧ Below w.heap.size w w' := by
  obtain ⟨L, hL⟩ : ∃ L : List Pt, [⟨px, py⟩, ⟨dx, dy⟩] ++ (r ++ s) = L := ⟨_, rfl⟩
  have hLn : L.length = 2 + r.length + s.length := by rw [← hL]; simp; omega
  have hv0 := hide hv
  have hv20 := hide hv2
  obtain ⟨i0, hi, hz0, hz1, hz2⟩ := info_parts info_pt
  have HI := hide hi
  have HZ0 := hide hz0
  have HZ1 := hide hz1
  have HZ2 := hide hz2
  obtain ⟨A, cp, rfl, _, _⟩ := hv
  obtain ⟨A2, cp2, rfl, _, _⟩ := hv2
  have n1 : ¬ (40 : Int) < r.length := by omega
  have n2 : ¬ (40 : Int) < s.length := by omega
  have HL := hide hL
  clear hi hz0 hz1 hz2 hL
  go_enter Try.func9, Try.ntmps9
  go_wp2_with fail
  refine (rhead_any _).mono ?_
  rintro _ w1 ⟨rfl, b1⟩
  have hp1 : w1.heap[w.heap.size]? = some (.cells #[.int .i64 px, .int .i64 py] 24 (0, 0)) := blkB b1 (blkO _ (blkN _ _ _ rfl))
  have hd1 : w1.heap[w.heap.size + 1]? = some (.cells #[.int .i64 dx, .int .i64 dy] 24 (0, 0)) := blkB b1 (blkN _ _ _ (by simp))
  have hbw : Below w.heap.size w w1 := bto (((Below.refl _ w).alloc (Nat.le_refl _) _).alloc (by simp) _) b1
  have hlo : w.heap.size + 2 ≤ w1.heap.size := by have := b1.size; simp at this; omega
  obtain ⟨⟨d1, d2⟩, _⟩ := blk2 hp1
  obtain ⟨⟨d3, d4⟩, _⟩ := blk2 hd1
  have HP1 := hide hp1
  have HD1 := hide hd1
  have HB1 := hide hbw
  have ho0 : (w1.alloc (.cells #[.int .i64 px, .int .i64 py, .int .i64 dx, .int .i64 dy] 24)).ownsRow w1.heap.size 24 2 (.slice (some ⟨w1.heap.size, 0, none⟩) 2 2) 2 (cellsP [⟨px, py⟩, ⟨dx, dy⟩]) :=
    ⟨rfl, .inr ⟨w1.heap.size, 2, #[.int .i64 px, .int .i64 py, .int .i64 dx, .int .i64 dy], rfl, Nat.le_refl _, heap_alloc_new w1 _, Nat.le_refl _, by unfold maxLen; omega, rfl, rfl⟩⟩
  have hb0 : Below w1.heap.size w1 (w1.alloc (.cells #[.int .i64 px, .int .i64 py, .int .i64 dx, .int .i64 dy] 24)) := (Below.refl _ w1).alloc (Nat.le_refl _) _
  have HO := hide ho0
  have HB0 := hide hb0
  obtain ⟨Ar, cr, er, sr1, sr2⟩ := ((hv0.out.below HB1.out).below hb0).src
  simp only [Value.slice.injEq, true_and] at er
  obtain ⟨rfl, rfl⟩ := er
  have SR1 := hide sr1
  have SR2 := hide sr2
  clear hp1 hd1 hbw b1 ho0 hb0 sr1 sr2
  go_wp2_with (first
    | (at_builtin; go_must (refine wpList_append_src _ rfl (.tmp 26) (.tmp 27) 22 rfl w1.heap.size 24 i0 (.agg #[.int .i64 0, .int .i64 0]) 2 16 Try.underlying22 HI.out HZ0.out HZ1.out HZ2.out rfl (by decide) (.slice (some ⟨w1.heap.size, 0, none⟩) 2 2) 2 (cellsP [⟨px, py⟩, ⟨dx, dy⟩]) rfl HO.out A r.length cp (cellsP r) rfl (cellsP_len r) SR1.out SR2.out (cellsP_one r) ?c1 ?c2 ?c3 ?_))
    | fail)
  case c1 => unfold maxLen; omega
  case c2 => omega
  case c3 => exact HB0.out.size
  intro v3 w3 hown3 hgr3
  obtain ⟨A3, c3, rfl⟩ := own_slice hown3
  have hb3 : Below w1.heap.size w1 w3 := HB0.out.grown hgr3 HB0.out.size (fun b hb => (HO.out.lt b hb).1)
  obtain ⟨As, cs, es, ss1, ss2⟩ := ((hv20.out.below HB1.out).below hb3).src
  simp only [Value.slice.injEq, true_and] at es
  obtain ⟨rfl, rfl⟩ := es
  have SS1 := hide ss1
  have SS2 := hide ss2
  have HO3 := hide hown3
  have HB3 := hide hb3
  clear hown3 hgr3 hb3 ss1 ss2 HO HB0 SR1 SR2
  go_wp2_with (first
    | (at_builtin; go_must (refine wpList_append_src _ rfl (.tmp 28) (.tmp 29) 22 rfl w1.heap.size 24 i0 (.agg #[.int .i64 0, .int .i64 0]) 2 16 Try.underlying22 HI.out HZ0.out HZ1.out HZ2.out rfl (by decide) (.slice A3 (2 + r.length) c3) (2 + r.length) (cellsP [⟨px, py⟩, ⟨dx, dy⟩] ++ cellsP r) rfl HO3.out A2 s.length cp2 (cellsP s) rfl (cellsP_len s) SS1.out SS2.out (cellsP_one s) ?c1 ?c2 ?c3 ?_))
    | fail)
  case c1 => unfold maxLen; omega
  case c2 => omega
  case c3 => exact HB3.out.size
  intro v4 w4 hown4 hgr4
  obtain ⟨A4, c4, rfl⟩ := own_slice hown4
  have hb4 : Below w1.heap.size w1 w4 := HB3.out.grown hgr4 HB3.out.size (fun b hb => (HO3.out.lt b hb).1)
  rw [← cellsP_app, ← cellsP_app, HL.out] at hown4
  have hrow : ∃ g, A4 = some ⟨g, 0, none⟩ ∧ MvB w w1 px py dx dy g L w4 ∧ 2 + r.length + s.length ≤ c4 := by
    obtain ⟨g, rfl, _⟩ := own_some hown4 (by omega)
    refine ⟨g, rfl, ⟨blkB hb4 HP1.out, blkB hb4 HD1.out, row_of_own (by rw [hLn]; exact hown4) hb4, bto HB1.out hb4, hlo⟩, ?_⟩
    rcases hown4.2 with ⟨h1, _⟩ | ⟨g', cap', cur, h1, h2, h3, h4, _, h5, h6⟩
    · cases h1
    · cases h1; exact h4
  obtain ⟨g, rfl, hm, hcap⟩ := hrow
  have HM := hide hm
  clear hown4 hgr4 hb4 hm HO3 HB3 SS1 SS2 d1 d2 d3 d4
  obtain ⟨N, hN⟩ : ∃ N, N = 2 + r.length + s.length := ⟨_, rfl⟩
  rw [← hN]
  have hN1 : N ≤ 82 := by omega
  have hLN : L.length = N := by omega
  have hNc : N ≤ c4 := by omega
  have HN := hide hN
  have HLN := hide hLN
  have SL := hide (fun (L' : List Pt) (W : World) (h : MvB w w1 px py dx dy g L' W) (hl : L'.length = N) => (show SlP W (.slice (some ⟨g, 0, none⟩) N c4) L' from ⟨_, c4, by rw [hl], .inr ⟨g, 0, rfl, h.row.lt, h.row.pts⟩⟩))
  clear hN hLN hLn hcap HI HZ0 HZ1 HZ2
  cases hn : nearL L with
  | false =>
    have C0 := hide (rnearL_any L _ w4 (SL.out L w4 HM.out HLN.out) (by rw [HLN.out]; omega))
    rw [hn] at C0
    clear hn
    go_wp2_with fail
    refine C0.out.mono ?_
    rintro _ w5 ⟨rfl, b5⟩
    go_wp2_with fail
    go_ret
    exact ⟨rfl, bto HM.out.below b5⟩
  | true =>
    have C0 := hide (rnearL_any L _ w4 (SL.out L w4 HM.out HLN.out) (by rw [HLN.out]; omega))
    rw [hn] at C0
    have HNR := hide (nearL_mem L hn)
    have dfine := (nearB_iff _).1 (HNR.out ⟨dx, dy⟩ (by rw [← HL.out]; simp))
    simp only at dfine
    obtain ⟨y1, y2, y3, y4⟩ := dfine
    clear hn
    go_wp2_with fail
    refine C0.out.mono ?_
    rintro _ w5 ⟨rfl, b5⟩
    have hm5 : MvB w w1 px py dx dy g (upMv ⟨dx, dy⟩ L 0) w5 := by
      have : upMv ⟨dx, dy⟩ L 0 = L := by simp [upMv]
      rw [this]
      exact HM.out.lift b5
    have HM5 := hide hm5
    clear hm5 b5 HM C0
    go_wp2_with fail
    go_loopw [11] (fun i wr => ∃ k : Nat, k ≤ N ∧ i = .int .i64 k ∧ Hid (MvB w w1 px py dx dy g (upMv ⟨dx, dy⟩ L k) wr)) (fun i _ => N - (intOf i).toNat)
    case atStart => exact ⟨0, Nat.zero_le _, rfl, HM5⟩
    case round =>
      clear HM5
      obtain ⟨k, hk, rfl, hm⟩ := hrel
      by_cases hlt : k < N
      · have hkL : k < L.length := by rw [HLN.out]; exact hlt
        have hget := upMv_get ⟨dx, dy⟩ L k hkL
        have hsucc := upMv_succ ⟨dx, dy⟩ L k hkL
        have hfine := (nearB_iff _).1 (HNR.out (at0 L k) (List.mem_of_getElem? (at0_some L k hkL)))
        have hl1 := upMv_len ⟨dx, dy⟩ L k (by omega)
        generalize at0 L k = q at *
        generalize upMv ⟨dx, dy⟩ L k = U at *
        obtain ⟨qx, qy⟩ := q
        simp only at hfine
        obtain ⟨z1, z2, z3, z4⟩ := hfine
        obtain ⟨e1, e2⟩ := hm.out.row.pts k _ hget
        rw [Nat.zero_add] at e1 e2
        simp only at e1 e2
        obtain ⟨⟨d3, d4⟩, _⟩ := blk2 hm.out.d
        have f1 := hm.out.row.frozen (k * 2)
        have f2 := hm.out.row.frozen (k * 2 + 1)
        have k0 : (0 : Int) ≤ k := by omega
        have k1 : (k : Int) < N := by omega
        have HS := hide hsucc
        have HG := hide hget
        clear hsucc hget hl1 hkL
        go_wp2_with fail
        go_still_tail 10, (by kernel_rfl)
        change wpList _ _ _ _ _ wr.drew
        have m2 : MvB w w1 px py dx dy g U wr.drew := hm.out.lift (below_drew wr)
        generalize wr.drew = W2 at *
        clear e1 e2 d3 d4 f1 f2 hm
        have f1 := m2.row.frozen (k * 2)
        obtain ⟨e1, e2⟩ := m2.row.pts k _ HG.out
        rw [Nat.zero_add] at e1 e2
        simp only at e1 e2
        have m3 := hide (m2.setX k _ HG.out (qx + dx))
        have HG3 := hide (show (U.set k ⟨qx + dx, qy⟩)[k]? = some (⟨qx + dx, qy⟩ : Pt) from List.getElem?_set_self (List.getElem?_eq_some_iff.1 HG.out).1)
        clear m2
        go_wp2_with fail
        have m4 : MvB w w1 px py dx dy g (U.set k ⟨qx + dx, qy⟩) (W2.setCell ⟨g, k * 2, none⟩ (.int .i64 (qx + dx))) := m3.out
        generalize W2.setCell ⟨g, k * 2, none⟩ (.int .i64 (qx + dx)) = W3 at *
        clear e1 e2 f1 m3
        obtain ⟨e1, e2⟩ := m4.row.pts k _ HG3.out
        rw [Nat.zero_add] at e1 e2
        simp only at e1 e2
        obtain ⟨⟨d3, d4⟩, _⟩ := blk2 m4.d
        go_still_tail 10, (by kernel_rfl)
        change wpList _ _ _ _ _ W3.drew
        have m5 : MvB w w1 px py dx dy g (U.set k ⟨qx + dx, qy⟩) W3.drew := m4.lift (below_drew W3)
        generalize W3.drew = W4 at *
        clear e1 e2 d3 d4 m4
        have f2 := m5.row.frozen (k * 2 + 1)
        obtain ⟨e1, e2⟩ := m5.row.pts k _ HG3.out
        rw [Nat.zero_add] at e1 e2
        simp only at e1 e2
        have m6 := m5.setY k _ HG3.out (qy + dy)
        simp only [List.set_set] at m6
        have HS2 := HS.out
        simp only [mv] at HS2
        rw [← HS2] at m6
        have M6 := hide m6
        clear m5 m6 HS2
        go_wp2_with fail
        refine ⟨⟨k + 1, by omega, by go_num, M6⟩, ?_⟩
        simp [intOf]; omega
      · obtain rfl : k = N := by omega
        have hall : upMv ⟨dx, dy⟩ L k = mvR ⟨dx, dy⟩ L := by rw [← HLN.out]; exact upMv_all _ _
        rw [hall] at hm
        have HLN2 := hide (show (mvR ⟨dx, dy⟩ L).length = k by rw [mvR_len]; exact HLN.out)
        have C1 := hide (rnearL_any (mvR ⟨dx, dy⟩ L) _ wr (SL.out _ wr hm.out HLN2.out) (by rw [HLN2.out]; omega))
        clear hall
        cases hn2 : nearL (mvR ⟨dx, dy⟩ L) with
        | false =>
          rw [hn2] at C1
          clear hn2
          go_wp2_with fail
          refine C1.out.mono ?_
          rintro _ w6 ⟨rfl, b6⟩
          go_wp2_with fail
          go_ret
          exact ⟨rfl, bto hm.out.below b6⟩
        | true =>
          rw [hn2] at C1
          have HNR2 := hide (nearL_mem _ hn2)
          clear hn2
          go_wp2_with fail
          refine C1.out.mono ?_
          rintro _ w6 ⟨rfl, b6⟩
          have HM6 := hide (hm.out.lift b6)
          have fr : ∀ q ∈ r, both ⟨dx, dy⟩ q := fun q hq => ⟨HNR.out q (by rw [← HL.out]; simp [hq]), HNR2.out _ (by rw [← HL.out]; unfold mvR; exact List.mem_map_of_mem (by simp [hq]))⟩
          have fs : ∀ q ∈ s, both ⟨dx, dy⟩ q := fun q hq => ⟨HNR.out q (by rw [← HL.out]; simp [hq]), HNR2.out _ (by rw [← HL.out]; unfold mvR; exact List.mem_map_of_mem (by simp [hq]))⟩
          have fp : both ⟨dx, dy⟩ ⟨px, py⟩ := ⟨HNR.out _ (by rw [← HL.out]; simp), HNR2.out _ (by rw [← HL.out]; unfold mvR; exact List.mem_map_of_mem (by simp))⟩
          have v1 := twice_mv ⟨dx, dy⟩ r fr
          have v2 := simple_mv ⟨dx, dy⟩ r fr
          have v3 := sideR_mv ⟨dx, dy⟩ r ⟨px, py⟩ fr fp
          have v4 := relation_mv ⟨dx, dy⟩ r s fr fs
          have la : (mvR ⟨dx, dy⟩ r).length ≤ 100000 := by rw [mvR_len]; omega
          have lb : (mvR ⟨dx, dy⟩ s).length ≤ 100000 := by rw [mvR_len]; omega
          have K1 := hide (fun u W h => twice_any (mvR ⟨dx, dy⟩ r) u W h la)
          have K2 := hide (fun W h => twice_any r (.slice A r.length cp) W h (by omega))
          have K3 := hide (fun u W h => simple_any (mvR ⟨dx, dy⟩ r) u W h la)
          have K4 := hide (fun W h => simple_any r (.slice A r.length cp) W h (by omega))
          have K5 := hide (fun u W h => side_any (mvR ⟨dx, dy⟩ r) u (px + dx) (py + dy) W h la)
          have K6 := hide (fun W h => side_any r (.slice A r.length cp) px py W h (by omega))
          have K7 := hide (fun u1 u2 W h1 h2 => relation_any (mvR ⟨dx, dy⟩ r) (mvR ⟨dx, dy⟩ s) u1 u2 W h1 h2 la lb)
          have K8 := hide (fun W h1 h2 => relation_any r s (.slice A r.length cp) (.slice A2 s.length cp2) W h1 h2 (by omega) (by omega))
          have ev : (⟨px + dx, py + dy⟩ : Pt) = mv ⟨dx, dy⟩ ⟨px, py⟩ := rfl
          simp only [v1] at K1
          simp only [v2] at K3
          simp only [ev, v3] at K5
          simp only [v4] at K7
          generalize twice r = t1 at *
          generalize simple r = t2 at *
          generalize sideR r ⟨px, py⟩ = t3 at *
          generalize relation r s = t4 at *
          have HD2 := hide (show (mvR ⟨dx, dy⟩ L) = [⟨px + dx, py + dy⟩, ⟨dx + dx, dy + dy⟩] ++ (mvR ⟨dx, dy⟩ r ++ mvR ⟨dx, dy⟩ s) by rw [← HL.out]; simp [mvR, mv])
          have PA := hide (fun (W : World) (h : MvB w w1 px py dx dy g (mvR ⟨dx, dy⟩ L) W) => (show PtsO W g 4 (mvR ⟨dx, dy⟩ r) by
            have := (h.row.pts.drop 2).take (mvR ⟨dx, dy⟩ r).length
            rw [HD2.out] at this
            simpa using this))
          have PB := hide (fun (W : World) (h : MvB w w1 px py dx dy g (mvR ⟨dx, dy⟩ L) W) => (show PtsO W g ((2 + r.length) * 2) (mvR ⟨dx, dy⟩ s) by
            have := h.row.pts.drop (2 + r.length)
            rw [HD2.out, Nat.zero_add] at this
            have e : ([(⟨px + dx, py + dy⟩ : Pt), ⟨dx + dx, dy + dy⟩] ++ (mvR ⟨dx, dy⟩ r ++ mvR ⟨dx, dy⟩ s)).drop (2 + r.length) = mvR ⟨dx, dy⟩ s := by
              rw [List.drop_append, List.drop_eq_nil_of_le (by simp), List.nil_append, List.drop_append, List.drop_eq_nil_of_le (by simp [mvR])]
              simp [mvR]
            rw [e] at this
            exact this))
          have PC := hide (fun (W : World) (h : MvB w w1 px py dx dy g (mvR ⟨dx, dy⟩ L) W) => (show MvB w w1 px py dx dy g (mvR ⟨dx, dy⟩ L) W ∧ W.cell? ⟨w.heap.size, 0, none⟩ = some (.int .i64 px) ∧ W.cell? ⟨w.heap.size, 1, none⟩ = some (.int .i64 py) ∧ W.cell? ⟨g, 0, none⟩ = some (.int .i64 (px + dx)) ∧ W.cell? ⟨g, 1, none⟩ = some (.int .i64 (py + dy)) by
            have e := h.row.pts 0 ⟨px + dx, py + dy⟩ (by rw [HD2.out]; rfl)
            exact ⟨h, (blk2 h.p).1.1, (blk2 h.p).1.2, e.1, e.2⟩))
          have R1 := hide (fun (W : World) (h : MvB w w1 px py dx dy g (mvR ⟨dx, dy⟩ L) W) => (hv0.out.below h.below).sl)
          have R2 := hide (fun (W : World) (h : MvB w w1 px py dx dy g (mvR ⟨dx, dy⟩ L) W) => (hv20.out.below h.below).sl)
          have k0 : (0 : Int) < k := by have := HN.out; omega
          have k00 : 0 < k := by omega
          clear b6 hm C1 HNR HNR2 v1 v2 v3 v4 la lb ev fr fs fp y1 y2 y3 y4 HD2
          obtain ⟨hk1, hk2⟩ : 2 + r.length + s.length ≤ k ∧ k ≤ 2 + r.length + s.length := by have := HN.out; omega
          by_cases h3 : c4 = 2 + r.length
          · by_cases h2 : c4 = 2
            · subst h2
              have l1 : r.length = 0 := by omega
              have l2 : s.length = 0 := by omega
              have hk : k = 2 := by omega
              have hr0 : r = [] := List.eq_nil_of_length_eq_zero l1
              have hs0 : s = [] := List.eq_nil_of_length_eq_zero l2
              subst hk hr0 hs0
              clear hk1 hk2 l1 l2 n1 n2 hN1 hNc h3 hr hs k0 k00
              simp only [List.length_nil] at K2 K4 K6 K8 R1 R2
              go_wp2_with fail
              have SA := hide (fun (W : World) (h : MvB w w1 px py dx dy g (mvR ⟨dx, dy⟩ L) W) => (show SlP W (.slice (some ⟨g, 0, none⟩) 0 0) (mvR ⟨dx, dy⟩ []) from ⟨some ⟨g, 0, none⟩, 0, by simp [mvR], .inl (by simp [mvR])⟩))
              have SB := hide (fun (W : World) (h : MvB w w1 px py dx dy g (mvR ⟨dx, dy⟩ L) W) => (show SlP W (.slice (some ⟨g, 0, none⟩) 0 0) (mvR ⟨dx, dy⟩ []) from ⟨some ⟨g, 0, none⟩, 0, by simp [mvR], .inl (by simp [mvR])⟩))
              clear PA PB
              go_region_held3 (fun W => MvB w w1 px py dx dy g (mvR ⟨dx, dy⟩ L) W ∧ W.cell? ⟨w.heap.size, 0, none⟩ = some (.int .i64 px) ∧ W.cell? ⟨w.heap.size, 1, none⟩ = some (.int .i64 py) ∧ W.cell? ⟨g, 0, none⟩ = some (.int .i64 (px + dx)) ∧ W.cell? ⟨g, 1, none⟩ = some (.int .i64 (py + dy)))
                (first | exact PC.out _ (HM6.out.lift (below_drew w6)) | exact PC.out _ hk7)
                (first
                  | (go_at_call 12; (with_reducible refine (K1.out _ _ (SA.out _ (And.left (by assumption)))).mono ?_); rintro _ w7 ⟨rfl, b7⟩; have hk7 := MvB.lift (And.left (by assumption)) b7)
                  | (go_at_call 12; (with_reducible refine (K2.out _ (R1.out _ (And.left (by assumption)))).mono ?_); rintro _ w7 ⟨rfl, b7⟩; have hk7 := MvB.lift (And.left (by assumption)) b7)
                  | (go_at_call 14; (with_reducible refine (K3.out _ _ (SA.out _ (And.left (by assumption)))).mono ?_); rintro _ w7 ⟨rfl, b7⟩; have hk7 := MvB.lift (And.left (by assumption)) b7)
                  | (go_at_call 14; (with_reducible refine (K4.out _ (R1.out _ (And.left (by assumption)))).mono ?_); rintro _ w7 ⟨rfl, b7⟩; have hk7 := MvB.lift (And.left (by assumption)) b7)
                  | (go_at_call 16; (with_reducible refine (K5.out _ _ (SA.out _ (And.left (by assumption)))).mono ?_); rintro _ w7 ⟨rfl, b7⟩; have hk7 := MvB.lift (And.left (by assumption)) b7)
                  | (go_at_call 16; (with_reducible refine (K6.out _ (R1.out _ (And.left (by assumption)))).mono ?_); rintro _ w7 ⟨rfl, b7⟩; have hk7 := MvB.lift (And.left (by assumption)) b7)
                  | (go_at_call 18; (with_reducible refine (K7.out _ _ _ (SA.out _ (And.left (by assumption))) (SB.out _ (And.left (by assumption)))).mono ?_); rintro _ w7 ⟨rfl, b7⟩; have hk7 := MvB.lift (And.left (by assumption)) b7)
                  | (go_at_call 18; (with_reducible refine (K8.out _ (R1.out _ (And.left (by assumption))) (R2.out _ (And.left (by assumption)))).mono ?_); rintro _ w7 ⟨rfl, b7⟩; have hk7 := MvB.lift (And.left (by assumption)) b7))
              all_goals
                go_wp2_with fail
                go_ret
                exact ⟨rfl, MvB.below (And.left (by assumption))⟩
            · subst h3
              have h2' : ¬ r.length = 0 := by omega
              have g1 : (2 : Int) ≤ 2 + r.length := by omega
              have g3 : (2 : Int) + r.length ≤ k := by omega
              have g4 : (2 : Int) ≤ k := by omega
              have e1 : IntKind.i64.wrap (2 + (r.length : Int)) = 2 + (r.length : Int) := IntWalk.i64_in _ (by omega)
              have e2 : ((2 : Int) + r.length).toNat = 2 + r.length := by omega
              have HZ := hide (show s = [] from List.eq_nil_of_length_eq_zero (by omega))
              go_wp2_with fail
              have SA := hide (fun (W : World) (h : MvB w w1 px py dx dy g (mvR ⟨dx, dy⟩ L) W) => (show SlP W (.slice (some ⟨g, 4, none⟩) r.length r.length) (mvR ⟨dx, dy⟩ r) from ⟨some ⟨g, 4, none⟩, r.length, by rw [mvR_len], .inr ⟨g, 4, rfl, h.row.lt, PA.out W h⟩⟩))
              have SB := hide (fun (W : World) (h : MvB w w1 px py dx dy g (mvR ⟨dx, dy⟩ L) W) => (show SlP W (.slice (some ⟨g, 0, none⟩) 0 0) (mvR ⟨dx, dy⟩ s) from ⟨some ⟨g, 0, none⟩, 0, by simp [mvR, HZ.out], .inl (by simp [mvR, HZ.out])⟩))
              clear PA PB
              go_region_held3 (fun W => MvB w w1 px py dx dy g (mvR ⟨dx, dy⟩ L) W ∧ W.cell? ⟨w.heap.size, 0, none⟩ = some (.int .i64 px) ∧ W.cell? ⟨w.heap.size, 1, none⟩ = some (.int .i64 py) ∧ W.cell? ⟨g, 0, none⟩ = some (.int .i64 (px + dx)) ∧ W.cell? ⟨g, 1, none⟩ = some (.int .i64 (py + dy)))
                (first | exact PC.out _ (HM6.out.lift (below_drew w6)) | exact PC.out _ hk7)
                (first
                  | (go_at_call 12; (with_reducible refine (K1.out _ _ (SA.out _ (And.left (by assumption)))).mono ?_); rintro _ w7 ⟨rfl, b7⟩; have hk7 := MvB.lift (And.left (by assumption)) b7)
                  | (go_at_call 12; (with_reducible refine (K2.out _ (R1.out _ (And.left (by assumption)))).mono ?_); rintro _ w7 ⟨rfl, b7⟩; have hk7 := MvB.lift (And.left (by assumption)) b7)
                  | (go_at_call 14; (with_reducible refine (K3.out _ _ (SA.out _ (And.left (by assumption)))).mono ?_); rintro _ w7 ⟨rfl, b7⟩; have hk7 := MvB.lift (And.left (by assumption)) b7)
                  | (go_at_call 14; (with_reducible refine (K4.out _ (R1.out _ (And.left (by assumption)))).mono ?_); rintro _ w7 ⟨rfl, b7⟩; have hk7 := MvB.lift (And.left (by assumption)) b7)
                  | (go_at_call 16; (with_reducible refine (K5.out _ _ (SA.out _ (And.left (by assumption)))).mono ?_); rintro _ w7 ⟨rfl, b7⟩; have hk7 := MvB.lift (And.left (by assumption)) b7)
                  | (go_at_call 16; (with_reducible refine (K6.out _ (R1.out _ (And.left (by assumption)))).mono ?_); rintro _ w7 ⟨rfl, b7⟩; have hk7 := MvB.lift (And.left (by assumption)) b7)
                  | (go_at_call 18; (with_reducible refine (K7.out _ _ _ (SA.out _ (And.left (by assumption))) (SB.out _ (And.left (by assumption)))).mono ?_); rintro _ w7 ⟨rfl, b7⟩; have hk7 := MvB.lift (And.left (by assumption)) b7)
                  | (go_at_call 18; (with_reducible refine (K8.out _ (R1.out _ (And.left (by assumption))) (R2.out _ (And.left (by assumption)))).mono ?_); rintro _ w7 ⟨rfl, b7⟩; have hk7 := MvB.lift (And.left (by assumption)) b7))
              all_goals
                go_wp2_with fail
                go_ret
                exact ⟨rfl, MvB.below (And.left (by assumption))⟩
          · have h2 : ¬ c4 = 2 := by omega
            have g1 : (2 : Int) ≤ c4 := by omega
            have g2 : (2 : Int) + r.length ≤ c4 := by omega
            have g3 : (2 : Int) + r.length ≤ k := by omega
            have g4 : (2 : Int) ≤ k := by omega
            have e1 : IntKind.i64.wrap (2 + (r.length : Int)) = 2 + (r.length : Int) := IntWalk.i64_in _ (by omega)
            have e2 : ((2 : Int) + r.length).toNat = 2 + r.length := by omega
            go_wp2_with fail
            have SA := hide (fun (W : World) (h : MvB w w1 px py dx dy g (mvR ⟨dx, dy⟩ L) W) => (show SlP W (.slice (some ⟨g, 4, none⟩) r.length (c4 - 2)) (mvR ⟨dx, dy⟩ r) from ⟨some ⟨g, 4, none⟩, (c4 - 2), by rw [mvR_len], .inr ⟨g, 4, rfl, h.row.lt, PA.out W h⟩⟩))
            have SB := hide (fun (W : World) (h : MvB w w1 px py dx dy g (mvR ⟨dx, dy⟩ L) W) => (show SlP W (.slice (some ⟨g, (2 + r.length) * 2, none⟩) (k - (2 + r.length)) (c4 - (2 + r.length))) (mvR ⟨dx, dy⟩ s) from ⟨some ⟨g, (2 + r.length) * 2, none⟩, c4 - (2 + r.length), by rw [mvR_len]; congr 1; omega, .inr ⟨g, (2 + r.length) * 2, rfl, h.row.lt, PB.out W h⟩⟩))
            clear PA PB
            go_region_held3 (fun W => MvB w w1 px py dx dy g (mvR ⟨dx, dy⟩ L) W ∧ W.cell? ⟨w.heap.size, 0, none⟩ = some (.int .i64 px) ∧ W.cell? ⟨w.heap.size, 1, none⟩ = some (.int .i64 py) ∧ W.cell? ⟨g, 0, none⟩ = some (.int .i64 (px + dx)) ∧ W.cell? ⟨g, 1, none⟩ = some (.int .i64 (py + dy)))
              (first | exact PC.out _ (HM6.out.lift (below_drew w6)) | exact PC.out _ hk7)
              (first
                | (go_at_call 12; (with_reducible refine (K1.out _ _ (SA.out _ (And.left (by assumption)))).mono ?_); rintro _ w7 ⟨rfl, b7⟩; have hk7 := MvB.lift (And.left (by assumption)) b7)
                | (go_at_call 12; (with_reducible refine (K2.out _ (R1.out _ (And.left (by assumption)))).mono ?_); rintro _ w7 ⟨rfl, b7⟩; have hk7 := MvB.lift (And.left (by assumption)) b7)
                | (go_at_call 14; (with_reducible refine (K3.out _ _ (SA.out _ (And.left (by assumption)))).mono ?_); rintro _ w7 ⟨rfl, b7⟩; have hk7 := MvB.lift (And.left (by assumption)) b7)
                | (go_at_call 14; (with_reducible refine (K4.out _ (R1.out _ (And.left (by assumption)))).mono ?_); rintro _ w7 ⟨rfl, b7⟩; have hk7 := MvB.lift (And.left (by assumption)) b7)
                | (go_at_call 16; (with_reducible refine (K5.out _ _ (SA.out _ (And.left (by assumption)))).mono ?_); rintro _ w7 ⟨rfl, b7⟩; have hk7 := MvB.lift (And.left (by assumption)) b7)
                | (go_at_call 16; (with_reducible refine (K6.out _ (R1.out _ (And.left (by assumption)))).mono ?_); rintro _ w7 ⟨rfl, b7⟩; have hk7 := MvB.lift (And.left (by assumption)) b7)
                | (go_at_call 18; (with_reducible refine (K7.out _ _ _ (SA.out _ (And.left (by assumption))) (SB.out _ (And.left (by assumption)))).mono ?_); rintro _ w7 ⟨rfl, b7⟩; have hk7 := MvB.lift (And.left (by assumption)) b7)
                | (go_at_call 18; (with_reducible refine (K8.out _ (R1.out _ (And.left (by assumption))) (R2.out _ (And.left (by assumption)))).mono ?_); rintro _ w7 ⟨rfl, b7⟩; have hk7 := MvB.lift (And.left (by assumption)) b7))
            all_goals
              go_wp2_with fail
              go_ret
              exact ⟨rfl, MvB.below (And.left (by assumption))⟩

set_option maxHeartbeats 2000000 in
theorem moves_walk (r : List Pt) (v : Value) (s : List Pt) (v2 : Value) (px py dx dy : Int) (w : World) (hv : SlC w v r) (_ : r.length ≤ maxLen) (hv2 : SlC w v2 s) (_ : s.length ≤ maxLen) :
    Calls Try.prog 9 #[v, v2, .agg #[.int .i64 px, .int .i64 py], .agg #[.int .i64 dx, .int .i64 dy]] w fun e w' => e = .returned (.bool true) ∧ Below w.heap.size w w' := by
  by_cases h1 : r.length ≤ 40
  · by_cases h2 : s.length ≤ 40
    · exact moves_small r s v v2 px py dx dy w hv hv2 h1 h2
    · obtain ⟨A, cp, rfl, _, _⟩ := hv
      obtain ⟨A2, cp2, rfl, _, _⟩ := hv2
      have n1 : ¬ (40 : Int) < r.length := by omega
      have n2 : (40 : Int) < s.length := by omega
      go_enter Try.func9, Try.ntmps9
      go_wp2_with fail
      refine (rhead_any _).mono ?_
      rintro _ w1 ⟨rfl, b1⟩
      go_wp2_with fail
      go_ret
      exact ⟨rfl, bto (((Below.refl _ w).alloc (Nat.le_refl _) _).alloc (by simp) _) b1⟩
  · obtain ⟨A, cp, rfl, _, _⟩ := hv
    obtain ⟨A2, cp2, rfl, _, _⟩ := hv2
    have n1 : (40 : Int) < r.length := by omega
    go_enter Try.func9, Try.ntmps9
    go_wp2_with fail
    refine (rhead_any _).mono ?_
    rintro _ w1 ⟨rfl, b1⟩
    go_wp2_with fail
    go_ret
    exact ⟨rfl, bto (((Below.refl _ w).alloc (Nat.le_refl _) _).alloc (by simp) _) b1⟩
end Go.Proofs.Ytmklnioedeailaa
