/-
  The reference's arc, walked.
-/
import Derived.Test.YtpiocaomlifljaaNetMh
import Derived.Test.YtpiocaomlifljaaNetMl
namespace Go.Proofs.Ytpiocaomlifljaa
open Go.RowKit Go.Proofs.PlLex Go.Proofs.PlNet Go.Proofs.PlMap Go.Proofs.PlGeom

/-- Arcs in a row of the caller's own. -/
structure AowI (w0 : World) (R : List Ar) (v : Value) (W : World) : Prop where
  row : W.ownsRow w0.heap.size 49 4 v R.length (cellsA R)
  below : Below w0.heap.size w0 W
theorem AowI.lift {w0 : World} {R : List Ar} {v : Value} {W W' : World} (h : AowI w0 R v W) (hb : Below W.heap.size W W') : AowI w0 R v W' :=
  ⟨own_below h.row hb, bto h.below hb⟩
theorem AowI.nil {w W : World} (hb : Below w.heap.size w W) : AowI w [] (.slice none 0 0) W := ⟨World.ownsRow_nil _ _ _ _, hb⟩
theorem AowI.more {w : World} {R : List Ar} {v : Value} {W w' : World} {x : Ar} {g cap : Nat} (h : AowI w R v W)
    (ho : w'.ownsRow w.heap.size 49 4 (.slice (some ⟨g, 0, none⟩) (R.length + 1) cap) (R.length + 1) (cellsA R ++ arCells x)) (hg : W.grownBy w' v.ownBlock) :
    AowI w (R ++ [x]) (.slice (some ⟨g, 0, none⟩) (R ++ [x]).length cap) w' := by
  have hlen : (R ++ [x]).length = R.length + 1 := by simp
  rw [hlen]
  refine ⟨?_, h.below.grown hg h.below.size (fun k hk => (own_block h.row hk).1)⟩
  rw [cellsA_app, hlen]
  simpa [cellsA] using ho
theorem AowI.at {w0 W : World} {R : List Ar} {g n c : Nat} (h : AowI w0 R (.slice (some ⟨g, 0, none⟩) n c) W) {i : Nat} {x : Ar} (hi : R[i]? = some x) :
    W.cell? ⟨g, i * 4, none⟩ = some (.string x.f) ∧ W.cell? ⟨g, i * 4 + 1, none⟩ = some (.string x.t) ∧ W.cell? ⟨g, i * 4 + 2, none⟩ = some (.string x.w) := by
  obtain ⟨e1, e2, e3, _⟩ := cellsA_at R i x hi
  have key : ∀ j u, (cellsA R)[j]? = some u → W.cell? ⟨g, j, none⟩ = some u := by
    intro j u hj
    have := h.row.cells (g := g) rfl j u hj
    have e : (⟨g, 0, none⟩ : Addr).add j = ⟨g, j, none⟩ := by simp only [Addr.add, Nat.zero_add]; split <;> simp_all
    rw [← e]
    exact this
  exact ⟨key _ _ e1, key _ _ e2, key _ _ e3⟩
/-- Added, unless it is there. -/
def addA (R : List Ar) (a : Ar) : List Ar := if a ∈ R then R else R ++ [a]
theorem dist_node {l : List Ob} (hm : mapB l = true) {f t : BA} (hf : isNode l f = true) (ht : isNode l t = true) :
    ∃ (i j : Nat) (p q : Ob) (D : Nat), findI l f = (i : Int) ∧ l[i]? = some p ∧ findI l t = (j : Int) ∧ l[j]? = some q ∧ dist ⟨p.x, p.y⟩ ⟨q.x, q.y⟩ = (D : Int) ∧ D ≤ 2199023255552 ∧ lenA l f t = max 1 (isq D : Int) := by
  obtain ⟨p, hp⟩ := node_in hf
  obtain ⟨q, hq⟩ := node_in ht
  obtain ⟨i, hi1, hi2⟩ := findN_of (mapB_uniq hm) hp.mem
  obtain ⟨j, hj1, hj2⟩ := findN_of (mapB_uniq hm) hq.mem
  rw [hp.id] at hi1
  rw [hq.id] at hj1
  have g1 := obB_grid (mapB_obs hm p hp.mem) hp.kind
  have g2 := obB_grid (mapB_obs hm q hq.mem) hq.kind
  obtain ⟨b1, b2⟩ := sqD_bd g1 g2
  have hd : dist ⟨p.x, p.y⟩ ⟨q.x, q.y⟩ = sqD p q := by
    unfold dist
    rw [near_grid g1 g2, if_pos rfl]
    unfold sqD
    simp only
    grind
  refine ⟨i, j, p, q, (sqD p q).toNat, by unfold findI; rw [hi1], hi2, by unfold findI; rw [hj1], hj2, by rw [hd]; omega, by omega, lenA_of hp hq g1 g2⟩
theorem pt_new {W w8 : World} {x y : Value} {t : TypeId} (hb : Below (W.alloc (.cells #[.int .i64 0, .int .i64 0] t)).heap.size (W.alloc (.cells #[.int .i64 0, .int .i64 0] t)) w8) :
    Below W.heap.size W ((w8.setCell ⟨W.heap.size, 0, none⟩ x).setCell ⟨W.heap.size, 1, none⟩ y) ∧ ((w8.setCell ⟨W.heap.size, 0, none⟩ x).setCell ⟨W.heap.size, 1, none⟩ y).heap[W.heap.size]? = some (.cells #[x, y] t (0, 0)) :=
  ⟨(((bto ((Below.refl _ _).alloc (Nat.le_refl _) _) hb)).setCell (Nat.le_refl _) _).setCell (Nat.le_refl _) _, G.set2 (blkB hb (heap_alloc_new _ _)) _ _⟩
theorem pt_old {W w8 : World} {x y : Value} {t : TypeId} (hb : Below W.heap.size W w8) :
    Below W.heap.size W (w8.alloc (.cells #[x, y] t)) ∧ (w8.alloc (.cells #[x, y] t)).heap[w8.heap.size]? = some (.cells #[x, y] t (0, 0)) :=
  ⟨hb.alloc hb.size _, heap_alloc_new _ _⟩
/-- What Find's place needs. -/
structure FnB (wo : World) (bm : Nat) (vm : Value) (g o : Nat) (x y : Int) (W : World) : Prop where
  below : Below wo.heap.size wo W
  lm : bm < wo.heap.size
  lg : g < wo.heap.size
  cm : W.cell? ⟨bm, 0, none⟩ = some vm
  cx : W.cell? ⟨g, o + 2, none⟩ = some (.int .i64 x)
  cy : W.cell? ⟨g, o + 3, none⟩ = some (.int .i64 y)
theorem FnB.lift {wo : World} {bm : Nat} {vm : Value} {g o : Nat} {x y : Int} {W W' : World} (h : FnB wo bm vm g o x y W) (hb : Below W.heap.size W W') : FnB wo bm vm g o x y W' :=
  ⟨bto h.below hb, h.lm, h.lg, (hb.cell (p := ⟨bm, 0, none⟩) (Nat.lt_of_lt_of_le h.lm h.below.size)).trans h.cm, (hb.cell (p := ⟨g, _, none⟩) (Nat.lt_of_lt_of_le h.lg h.below.size)).trans h.cx, (hb.cell (p := ⟨g, _, none⟩) (Nat.lt_of_lt_of_le h.lg h.below.size)).trans h.cy⟩
theorem FnB.cells {wo : World} {bm : Nat} {vm : Value} {g o : Nat} {x y : Int} {W : World} (h : FnB wo bm vm g o x y W) :
    FnB wo bm vm g o x y W ∧ W.cell? ⟨bm, 0, none⟩ = some vm ∧ W.cell? ⟨g, o + 2, none⟩ = some (.int .i64 x) ∧ W.cell? ⟨g, o + 3, none⟩ = some (.int .i64 y) := ⟨h, h.cm, h.cx, h.cy⟩
theorem FnB.more {wo : World} {bm : Nat} {vm : Value} {g o : Nat} {x y : Int} {W : World} (h : FnB wo bm vm g o x y W) (ob : Obj) : FnB wo bm vm g o x y (W.alloc ob) := h.lift ((Below.refl _ _).alloc (Nat.le_refl _) ob)
theorem FnB.set {wo : World} {bm : Nat} {vm : Value} {g o : Nat} {x y : Int} {W : World} (h : FnB wo bm vm g o x y W) {b : Nat} (hb : wo.heap.size ≤ b) (u v : Value) : FnB wo bm vm g o x y ((W.setCell ⟨b, 0, none⟩ u).setCell ⟨b, 1, none⟩ v) := by
  have hk := (((Below.refl wo.heap.size W).setCell (p := ⟨b, 0, none⟩) hb u)).setCell (p := ⟨b, 1, none⟩) hb v
  exact ⟨(h.below.setCell (p := ⟨b, 0, none⟩) hb u).setCell (p := ⟨b, 1, none⟩) hb v, h.lm, h.lg, (hk.cell (p := ⟨bm, 0, none⟩) h.lm).trans h.cm, (hk.cell (p := ⟨g, _, none⟩) h.lg).trans h.cx, (hk.cell (p := ⟨g, _, none⟩) h.lg).trans h.cy⟩

set_option maxRecDepth 100000 in
set_option maxHeartbeats 16000000 in
theorem arc16_any (l : List Ob) (v : Value) (hm : mapB l = true) (f t s : BA) (R : List Ar) (Ao : Option Addr) (co : Nat) (w0 w : World) (hv : MapI w0 v l) (hw : MapW w0 v l) (hf : isNode l f = true) (ht : isNode l t = true)
    (hR : R.length ≤ 100000000000) (hall : ∀ x ∈ R, x.n = lenA l x.f x.t) (h : AowI w0 R (.slice Ao R.length co) w) :
    Calls Try.prog 41 #[.slice Ao R.length co, .agg #[v], .string f, .string t, .string s] w fun e w' => ∃ rv, e = .returned rv ∧ AowI w0 (addA R ⟨f, t, s, lenA l f t⟩) rv w' := by
  obtain ⟨i0, hi, hz0, hz1, hz2⟩ := info_parts info_arc
  have HI := hide hi
  have HZ0 := hide hz0
  have HZ1 := hide hz1
  have HZ2 := hide hz2
  obtain ⟨ia, ib, p, q, D, hia, hpa, hib, hqb, hD, hDb, hN⟩ := dist_node hm hf ht
  have hlen := hv.len
  have HB0 := hide h.below
  obtain ⟨A, c, rfl, _, hA⟩ := id (hv.below h.below).obs
  obtain ⟨wo, hwo⟩ : ∃ wo, w.alloc (.cells #[.slice A l.length c] 24) = wo := ⟨_, rfl⟩
  have HBO : Hid (Below w.heap.size w wo) := by rw [← hwo]; exact (Below.refl _ _).alloc (Nat.le_refl _) _
  have hbl : wo.heap[w.heap.size]? = some (.cells #[.slice A l.length c] 24 (0, 0)) := by rw [← hwo]; exact heap_alloc_new _ _
  have HBL := hide hbl
  have HAO := hide (h.lift HBO.out)
  have hla : ia < l.length := (List.getElem?_eq_some_iff.1 hpa).1
  have hlb : ib < l.length := (List.getElem?_eq_some_iff.1 hqb).1
  obtain ⟨g, o, rfl, hg, hp⟩ := hA.resolve_left (by rintro rfl; simp at hla)
  obtain ⟨rv1, tv1, hoa1⟩ := hp ia p hpa
  obtain ⟨rv2, tv2, hoa2⟩ := hp ib q hqb
  have HP := hide (fun W (hb : Below wo.heap.size wo W) => hoa1.below hg (bto HBO.out hb))
  have HQ := hide (fun W (hb : Below wo.heap.size wo W) => hoa2.below hg (bto HBO.out hb))
  have HFF := hide (fun W (hb : Below wo.heap.size wo W) => (find_any l f _ W (hw.below (bto HB0.out (bto HBO.out hb)))).mono (fun e w' h => (⟨by rw [h.1, hia], h.2⟩ : e = .returned (.int .i64 (ia : Int)) ∧ Below W.heap.size W w')))
  have HFT := hide (fun W (hb : Below wo.heap.size wo W) => (find_any l t _ W (hw.below (bto HB0.out (bto HBO.out hb)))).mono (fun e w' h => (⟨by rw [h.1, hib], h.2⟩ : e = .returned (.int .i64 (ib : Int)) ∧ Below W.heap.size W w')))
  have HN := hide hN
  have HD := hide hD
  have HALL := hide hall
  have ja0 : (0 : Int) ≤ ia := by omega
  have ja1 : (ia : Int) < l.length := by omega
  have jb0 : (0 : Int) ≤ ib := by omega
  have jb1 : (ib : Int) < l.length := by omega
  have hgo : g < wo.heap.size := Nat.lt_of_lt_of_le hg HBO.out.size
  have hbo : w.heap.size < wo.heap.size := lt_of_block hbl
  clear hi hz0 hz1 hz2 hia hib hN hD hall hpa hqb hla hlb hp hoa1 hoa2 hA hv hw hf ht hm hbl h
  go_enter Try.func41, Try.ntmps41
  go_wp2_with fail
  clear hwo
  go_loop [11] (fun i => ∃ k : Nat, k ≤ R.length ∧ i = .int .i64 k ∧ Hid (∀ x ∈ R.take k, ¬ (x.f = f ∧ x.t = t ∧ x.w = s))) (fun i => R.length - (intOf i).toNat)
  case atStart => exact ⟨0, Nat.zero_le _, rfl, fun _ h => nomatch h⟩
  case round =>
    obtain ⟨k, hk, rfl, hno⟩ := hrel
    by_cases hlt : k < R.length
    · obtain ⟨gr, hAo⟩ : ∃ gr, Ao = some ⟨gr, 0, none⟩ := by
        rcases HAO.out.row.2 with ⟨_, hn⟩ | ⟨gr, cap, cur, hv, _⟩
        · omega
        · cases hv; exact ⟨gr, rfl⟩
      subst hAo
      have hkx := List.getElem?_eq_getElem hlt
      generalize R[k] = x at *
      obtain ⟨c0, c1, c2⟩ := HAO.out.at hkx
      have k0 : (0 : Int) ≤ k := by omega
      have k1 : (k : Int) < R.length := by omega
      have HKL := hide hlt
      have HMS := hide (show R.length - (k + 1) < R.length - k from by omega)
      have HKX := hide hkx
      have HNO := hide hno.out
      clear hkx hlt hno
      have HT : Hid ((¬ (x.f = f ∧ x.t = t ∧ x.w = s)) → ∀ y ∈ R.take (k + 1), ¬ (y.f = f ∧ y.t = t ∧ y.w = s)) := fun hn y hy => by
        rw [List.take_add_one, HKX.out] at hy
        rcases List.mem_append.1 hy with hy | hy
        · exact HNO.out y hy
        · simp at hy; subst hy; exact hn
      by_cases e1 : x.f = f
      · by_cases e2 : x.t = t
        · by_cases e3 : x.w = s
          · have hmem := List.mem_of_getElem? HKX.out
            have hn := HALL.out x hmem
            have hin : (⟨f, t, s, lenA l f t⟩ : Ar) ∈ R := by
              have : x = ⟨f, t, s, lenA l f t⟩ := Ar.ext' e1 e2 e3 (by rw [hn, e1, e2])
              rw [← this]; exact hmem
            have HADD : Hid (addA R ⟨f, t, s, lenA l f t⟩ = R) := by unfold addA; rw [if_pos hin]; exact hide rfl
            have z1 : (x.f.toList == f.toList) = true := by rw [e1]; simp
            have z2 : (x.t.toList == t.toList) = true := by rw [e2]; simp
            have z3 : (x.w.toList == s.toList) = true := by rw [e3]; simp
            clear e1 e2 e3 hmem hn hin
            go_wp2_with fail
            go_ret
            exact ⟨_, rfl, by rw [HADD.out]; exact HAO.out⟩
          · have z1 : (x.f.toList == f.toList) = true := by rw [e1]; simp
            have z2 : (x.t.toList == t.toList) = true := by rw [e2]; simp
            have y3 : ¬ x.w.toList = s.toList := fun h => e3 (toList_inj.1 h)
            have z3 : (x.w.toList == s.toList) = false := by simpa using y3
            have HT2 := hide (HT.out (fun h => e3 h.2.2))
            clear e1 e2 e3 HT
            go_wp2_with fail
            refine ⟨⟨k + 1, HKL.out, by go_num, HT2⟩, ?_⟩
            have := HMS.out
            simp [intOf]; omega
        · have z1 : (x.f.toList == f.toList) = true := by rw [e1]; simp
          have y2 : ¬ x.t.toList = t.toList := fun h => e2 (toList_inj.1 h)
          have z2 : (x.t.toList == t.toList) = false := by simpa using y2
          have HT2 := hide (HT.out (fun h => e2 h.2.1))
          clear e1 e2 HT
          go_wp2_with fail
          refine ⟨⟨k + 1, HKL.out, by go_num, HT2⟩, ?_⟩
          have := HMS.out
          simp [intOf]; omega
      · have y1 : ¬ x.f.toList = f.toList := fun h => e1 (toList_inj.1 h)
        have z1 : (x.f.toList == f.toList) = false := by simpa using y1
        have HT2 := hide (HT.out (fun h => e1 h.1))
        clear e1 HT
        go_wp2_with fail
        refine ⟨⟨k + 1, HKL.out, by go_num, HT2⟩, ?_⟩
        have := HMS.out
        simp [intOf]; omega
    · obtain rfl : k = R.length := by omega
      have hno2 := hno.out
      rw [List.take_length] at hno2
      have HADD : Hid (addA R ⟨f, t, s, lenA l f t⟩ = R ++ [⟨f, t, s, lenA l f t⟩]) := by
        unfold addA
        rw [if_neg (fun h => hno2 _ h ⟨rfl, rfl, rfl⟩)]
        exact hide rfl
      have HX := hide (HP.out wo (Below.refl _ _))
      have a2 := HX.out.c2
      have a3 := HX.out.c3
      have d0 := (blk1 HBL.out).1
      clear hno hno2 hlt
      go_wp2_with fail
      go_cut [12] (fun s12 wx => ∃ b, s12 = .pointer (some ⟨b, 0, none⟩) ∧ Hid (Below wo.heap.size wo wx) ∧ Hid (wx.heap[b]? = some (.cells #[.int .i64 p.x, .int .i64 p.y] 38 (0, 0))))
      case first =>
        have hfn : FnB wo w.heap.size (.slice (some ⟨g, o, none⟩) l.length c) g (o + ia * 6) p.x p.y wo := ⟨Below.refl _ _, hbo, hgo, d0, a2, a3⟩
        have hd := hfn.lift (below_drew wo)
        clear HX HQ HFT HAO HALL HADD HI HZ0 HZ1 HZ2
        go_region_held3 (fun w' => FnB wo w.heap.size (.slice (some ⟨g, o, none⟩) l.length c) g (o + ia * 6) p.x p.y w' ∧ w'.cell? ⟨w.heap.size, 0, none⟩ = some (.slice (some ⟨g, o, none⟩) l.length c) ∧ w'.cell? ⟨g, o + ia * 6 + 2, none⟩ = some (.int .i64 p.x) ∧ w'.cell? ⟨g, o + ia * 6 + 3, none⟩ = some (.int .i64 p.y))
          (first | exact hd.cells | exact hk7.cells | exact (hk7.more _).cells | exact (FnB.more (And.left (by assumption)) _).cells | exact (FnB.set (And.left (by assumption)) (by simp) _ _).cells)
          (first | (go_at_call 27; (with_reducible refine (HFF.out _ (FnB.below (And.left (by assumption)))).mono ?_); rintro _ w7 ⟨rfl, b7⟩; have hk7 := FnB.lift (And.left (by assumption)) b7; (try (obtain ⟨⟨q1, q2⟩, q3, q4⟩ := blk2 (blkB b7 (heap_alloc_new _ _))))))
        all_goals
          go_wp2_with fail
          go_meet
          refine ⟨_, rfl, ?_, ?_⟩
          · first | exact FnB.below (And.left (by assumption)) | exact (FnB.more (hk7) _).below
          · first | exact heap_alloc_new _ _ | exact G.set2 (blkB b7 (heap_alloc_new _ _)) _ _
      case rest =>
        obtain ⟨b, rfl, hbx, hcx⟩ := hcut
        have HBX := hide hbx.out
        have HCX := hide hcx.out
        clear hbx hcx a2 a3 d0 HX
        go_wp2_with fail
        go_cut [13] (fun s13 wy => ∃ b2, s13 = .pointer (some ⟨b2, 0, none⟩) ∧ Hid (Below wc.heap.size wc wy) ∧ Hid (wy.heap[b2]? = some (.cells #[.int .i64 q.x, .int .i64 q.y] 38 (0, 0))))
        case first =>
          have HX := hide (HQ.out wc HBX.out)
          have hfn : FnB wc w.heap.size (.slice (some ⟨g, o, none⟩) l.length c) g (o + ib * 6) q.x q.y wc := ⟨Below.refl _ _, Nat.lt_of_lt_of_le hbo HBX.out.size, Nat.lt_of_lt_of_le hgo HBX.out.size, (blk1 (blkB HBX.out HBL.out)).1, HX.out.c2, HX.out.c3⟩
          have hd := hfn.lift (below_drew wc)
          have a2 := hfn.cx
          have a3 := hfn.cy
          have d0 := hfn.cm
          clear HX HP HQ HFF HAO HALL HADD HI HZ0 HZ1 HZ2
          go_region_held3 (fun w' => FnB wc w.heap.size (.slice (some ⟨g, o, none⟩) l.length c) g (o + ib * 6) q.x q.y w' ∧ w'.cell? ⟨w.heap.size, 0, none⟩ = some (.slice (some ⟨g, o, none⟩) l.length c) ∧ w'.cell? ⟨g, o + ib * 6 + 2, none⟩ = some (.int .i64 q.x) ∧ w'.cell? ⟨g, o + ib * 6 + 3, none⟩ = some (.int .i64 q.y))
            (first | exact hd.cells | exact hk7.cells | exact (hk7.more _).cells | exact (FnB.more (And.left (by assumption)) _).cells | exact (FnB.set (And.left (by assumption)) (by simp) _ _).cells)
            (first | (go_at_call 27; (with_reducible refine (HFT.out _ (bto HBX.out (FnB.below (And.left (by assumption))))).mono ?_); rintro _ w7 ⟨rfl, b7⟩; have hk7 := FnB.lift (And.left (by assumption)) b7; (try (obtain ⟨⟨q1, q2⟩, q3, q4⟩ := blk2 (blkB b7 (heap_alloc_new _ _))))))
          all_goals
            go_wp2_with fail
            go_meet
            refine ⟨_, rfl, ?_, ?_⟩
            · first | exact FnB.below (And.left (by assumption)) | exact (FnB.more (hk7) _).below
            · first | exact heap_alloc_new _ _ | exact G.set2 (blkB b7 (heap_alloc_new _ _)) _ _
        case rest =>
          obtain ⟨b2, rfl, hby, hcy⟩ := hcut
          have HBY := hide hby.out
          have HBXY := hide (bto HBX.out hby.out)
          obtain ⟨⟨c1, c2⟩, _⟩ := blk2 (blkB hby.out HCX.out)
          obtain ⟨⟨d1, d2⟩, _⟩ := blk2 hcy.out
          have HDI := hide (fun W => G.rdist_any p.x p.y q.x q.y W)
          rw [HD.out] at HDI
          have HRO := hide (fun W => G.rroot_any D (by omega) W)
          have hN := HN.out
          have HSQ : Hid ((isq D : Int) ≤ 9000000000000000000) := by
            have h1 := isq_spec D (by omega)
            have := h1.1
            rcases Nat.lt_or_ge 3000000 (isq D) with h | h
            · have := Nat.mul_le_mul h h
              omega
            · exact hide (by omega)
          clear hby hcy HP HQ HFF HFT
          go_wp2_with fail
          refine (HDI.out _).mono ?_
          rintro _ w8 ⟨rfl, b8⟩
          go_wp2_with fail
          refine (HRO.out _).mono ?_
          rintro _ _ ⟨rfl, rfl⟩
          have HA8 := hide (HAO.out.lift (bto HBXY.out b8))
          clear b8 c1 c2 d1 d2 HDI HRO
          have hln : R.length ≤ 100000000000 := hR
          go_wp2_with (at_builtin; go_must (refine wpList_append_lies _ rfl (.tmp 67) (.tmp 74) 31 rfl w0.heap.size 49 i0 (.agg #[.string ⟨#[]⟩, .string ⟨#[]⟩, .string ⟨#[]⟩, .int .i64 0]) 4 56 Try.underlying31 HI.out HZ0.out HZ1.out HZ2.out rfl (by decide) (.slice Ao R.length co) R.length (cellsA R) rfl ?c0 ⟨w8.heap.size, 0, none⟩ 1 1 (arCells ⟨f, t, s, max 1 (isq D : Int)⟩) rfl rfl ?c1 ?c2 (by decide) ?c3 ?c4 ?c5 (w8.heap.size + 1) ?c6 ?_))
          case c0 => exact own_below HA8.out.row ((Below.refl _ _).alloc (Nat.le_refl _) _)
          case c1 =>
            intro j u hj
            exact new_cells w8 (arCells ⟨f, t, s, max 1 (isq D : Int)⟩) 49 j u hj
          case c2 => intro u hu; simp [arCells] at hu; rcases hu with rfl | rfl | rfl | rfl <;> rfl
          case c3 => unfold maxLen; omega
          case c4 => omega
          case c5 => have := HA8.out.below.size; simp; omega
          case c6 => simp
          intro g9 cap w9 hown9 hgrow9 hat9 _
          have ha9 := (HA8.out.lift ((Below.refl _ _).alloc (Nat.le_refl _) (.cells (arCells ⟨f, t, s, max 1 (isq D : Int)⟩).toArray 49))).more (x := ⟨f, t, s, max 1 (isq D : Int)⟩) hown9 hgrow9
          have HA9 := hide ha9
          clear hown9 hgrow9 hat9 ha9 HA8
          go_wp2_with fail
          go_ret
          exact ⟨_, rfl, by rw [HADD.out, hN]; simpa using HA9.out⟩
end Go.Proofs.Ytpiocaomlifljaa

/-! The reference's Arcs, walked. -/
namespace Go.Proofs.Ytpiocaomlifljaa
open Go.RowKit Go.Proofs.PlLex Go.Proofs.PlNet Go.Proofs.PlMap Go.Proofs.PlGeom

/-- The arcs of a way. -/
def wayA (l : List Ob) (o : Ob) : List Ar := arcsP l o.id o.refs
theorem way_own {l : List Ob} (hm : mapB l = true) {o : Ob} (ho : o ∈ l) (hw : wayB l o = true) : wayAt l o.id = some o.refs := by
  unfold wayAt
  cases e : findO (waysO l) o.id with
  | none => exact absurd rfl (findO_none e o (List.mem_filter.2 ⟨ho, hw⟩))
  | some p =>
    obtain ⟨h1, h2⟩ := findO_some e
    have := (mapB_uniq hm).eq (List.mem_filter.1 h1).1 ho h2
    subst this
    rfl
theorem way_is {l : List Ob} (hm : mapB l = true) {o : Ob} (ho : o ∈ l) : arcsO l o = if wayB l o then wayA l o else [] := by
  unfold arcsO
  cases hw : wayB l o with
  | true =>
    have hk : o.kind = 2 := by unfold wayB at hw; rw [Bool.and_eq_true, decide_eq_true_eq] at hw; exact hw.1
    rw [if_pos hk, if_pos rfl, way_own hm ho hw]
    rfl
  | false =>
    show (if o.kind = 2 then _ else _) = []
    split
    · rename_i hk
      cases e : findO (waysO l) o.id with
      | none =>
        unfold wayAt
        rw [e]
        rfl
      | some p =>
        obtain ⟨h1, h2⟩ := findO_some e
        obtain ⟨h3, h4⟩ := List.mem_filter.1 h1
        have := (mapB_uniq hm).eq h3 ho h2
        subst this
        rw [hw] at h4; cases h4
    · rfl
theorem filter_flat {p : Ob → Bool} {F G : Ob → List Ar} (l : List Ob) (h : ∀ o ∈ l, G o = if p o then F o else []) : (l.filter p).flatMap F = l.flatMap G := by
  induction l with
  | nil => rfl
  | cons x l ih =>
    have h1 := h x (List.mem_cons_self ..)
    have h2 := ih (fun o ho => h o (List.mem_cons_of_mem _ ho))
    rw [List.flatMap_cons, h1, ← h2]
    cases hp : p x with
    | true => rw [List.filter_cons_of_pos hp, List.flatMap_cons, if_pos rfl]
    | false => rw [List.filter_cons_of_neg (by rw [hp]; decide), if_neg (by decide), List.nil_append]
theorem ways_arcs {l : List Ob} (hm : mapB l = true) : (waysO l).flatMap (wayA l) = allArcs l := filter_flat l (fun _ ho => way_is hm ho)
theorem flat_len (l m : List Ob) (h : ∀ o ∈ m, o.refs.length ≤ 100000) : (m.flatMap (wayA l)).length ≤ m.length * 200000 := by
  induction m with
  | nil => simp
  | cons o m ih =>
    rw [List.flatMap_cons, List.length_append, List.length_cons]
    have h1 := arcsP_len l o.id o.refs
    have h2 := h o (List.mem_cons_self ..)
    have h3 := ih (fun x hx => h x (List.mem_cons_of_mem _ hx))
    unfold wayA at h3 ⊢
    omega
theorem flat_snoc (l : List Ob) {m : List Ob} {k : Nat} {t : Ob} (h : m[k]? = some t) : (m.take (k + 1)).flatMap (wayA l) = (m.take k).flatMap (wayA l) ++ wayA l t := by
  rw [List.take_add_one, h, List.flatMap_append]
  simp
theorem once_add (Y : List Ar) (a : Ar) : onceA [] (Y ++ [a]) = addA (onceA [] Y) a := by
  rw [onceA_snoc]
  rfl
theorem once_two (X : List Ar) (l : List Ob) (id : BA) {r : List BA} {i : Nat} {a b : BA} (ha : r[i]? = some a) (hb : r[i + 1]? = some b) (hc : lenA l b a = lenA l a b) :
    onceA [] (X ++ arcsP l id (r.take (i + 2))) = addA (addA (onceA [] (X ++ arcsP l id (r.take (i + 1)))) ⟨a, b, id, lenA l a b⟩) ⟨b, a, id, lenA l b a⟩ := by
  rw [arcsP_snoc l id r i a b ha hb, hc, ← once_add, ← once_add]
  simp
theorem addA_len (l : List Ob) {R : List Ar} (h : ∀ x ∈ R, x.n = lenA l x.f x.t) (f t s : BA) : ∀ x ∈ addA R ⟨f, t, s, lenA l f t⟩, x.n = lenA l x.f x.t := by
  unfold addA
  split
  · exact h
  · intro x hx
    rcases List.mem_append.1 hx with hx | hx
    · exact h x hx
    · rw [List.mem_singleton] at hx; subst hx; rfl
theorem addA_le (R : List Ar) (a : Ar) : (addA R a).length ≤ R.length + 1 := by
  unfold addA
  split
  · omega
  · simp
theorem once_le (X Y : List Ar) : (onceA [] (X ++ Y)).length ≤ X.length + Y.length := by
  have := onceA_len [] (X ++ Y)
  simpa using this
theorem AowI.slice {w0 : World} {R : List Ar} {v : Value} {W : World} (h : AowI w0 R v W) : ∃ A c, v = .slice A R.length c := own_slice h.row
theorem AowI.ars {w0 : World} {R : List Ar} {v : Value} {W : World} (h : AowI w0 R v W) : ArS W v R := by
  rcases h.row.2 with ⟨hv, hn⟩ | ⟨g, cap, cur, hv, hg, hh, hc, _⟩
  · subst hv
    have : R = [] := List.length_eq_zero_iff.1 hn
    subst this
    exact ⟨none, 0, rfl, .inl rfl⟩
  · subst hv
    refine ⟨some ⟨g, 0, none⟩, cap, rfl, .inr ⟨g, 0, rfl, lt_of_block hh, fun i x hi => ?_⟩⟩
    obtain ⟨e1, e2, e3, e4⟩ := cellsA_at R i x hi
    have key : ∀ j u, (cellsA R)[j]? = some u → W.cell? ⟨g, j, none⟩ = some u := by
      intro j u hj
      have := h.row.cells (g := g) rfl j u hj
      have e : (⟨g, 0, none⟩ : Addr).add j = ⟨g, j, none⟩ := by simp only [Addr.add, Nat.zero_add]; split <;> simp_all
      rw [← e]
      exact this
    refine ⟨?_, ?_, ?_, ?_⟩ <;> (rw [Nat.zero_add]; exact key _ _ (by assumption))
set_option maxRecDepth 100000 in
set_option maxHeartbeats 16000000 in
theorem arcs16_any (l : List Ob) (v : Value) (w : World) (hv : MapI w v l) (hw : MapW w v l) :
    Calls Try.prog 17 #[.agg #[v]] w fun e w' => ∃ rv, e = .returned rv ∧ ArS w' rv (if mapB l then arcsL l else []) ∧ Below w.heap.size w w' := by
  obtain ⟨F, hF⟩ : ∃ F, (if mapB l then arcsL l else []) = F := ⟨_, rfl⟩
  rw [hF]
  have HF := hide hF
  have hlen := hv.len
  have HV := hide hv
  have HW := hide hw
  have HOK := hide hv.ok
  obtain ⟨A, c, rfl, _, _⟩ := id hv.obs
  obtain ⟨wo, hwo⟩ : ∃ wo, w.alloc (.cells #[.slice A l.length c] 24) = wo := ⟨_, rfl⟩
  have HBO : Hid (Below w.heap.size w wo) := by rw [← hwo]; exact (Below.refl _ _).alloc (Nat.le_refl _) _
  have hbl : wo.heap[w.heap.size]? = some (.cells #[.slice A l.length c] 24 (0, 0)) := by rw [← hwo]; exact heap_alloc_new _ _
  have HBL := hide hbl
  have dm := (blk1 hbl).1
  have HO2 := hide (of16_any l _ 2 wo (HV.out.below HBO.out))
  have HL2 := hide (fun o (h : o ∈ ofL l 2) => ofL_sub h)
  have HWY := hide (fun (h : mapB l = true) => of_ways h)
  have HLF := hide (show mapB l = false → ofL l 2 = [] from fun h => by unfold ofL; rw [h]; rfl)
  have hn2 := Nat.le_trans (ofL_len l 2) hlen
  generalize ofL l 2 = L at *
  clear hv hw hbl hF
  go_enter Try.func17, Try.ntmps17
  go_wp2_with fail
  clear hwo dm
  refine HO2.out.mono ?_
  rintro _ w2 ⟨rv2, rfl, hob2, b2⟩
  obtain ⟨A2, c2, rfl, ha2⟩ := obs_a hob2
  have HA2 := hide ha2
  have HB2 := hide (bto HBO.out b2)
  have HBM := hide (blkB b2 HBL.out)
  have HV2 := hide (HV.out.below HB2.out)
  have HW2 := hide (HW.out.below HB2.out)
  clear HO2 b2 hob2 ha2
  go_wp2_with fail
  go_loopw [3, 5] (fun out i wr => ∃ (k : Nat) (R : List Ar) (Ao : Option Addr) (co : Nat), k ≤ L.length ∧ i = .int .i64 k ∧ out = .slice Ao R.length co ∧ Hid (AowI w2 R (.slice Ao R.length co) wr) ∧ Hid (R = onceA [] ((L.take k).flatMap (wayA l))) ∧ Hid (∀ x ∈ R, x.n = lenA l x.f x.t)) (fun _ i _ => L.length - (intOf i).toNat)
  case atStart => exact ⟨0, [], none, 0, Nat.zero_le _, rfl, rfl, AowI.nil (Below.refl _ _), hide rfl, fun _ h => nomatch h⟩
  case round =>
    obtain ⟨k, R, Ao, co, hk, rfl, rfl, haw, hR, hall⟩ := hrel
    have HAW := hide haw.out
    have HR := hide hR.out
    have HALL := hide hall.out
    clear haw hR hall
    by_cases hlt : k < L.length
    · obtain ⟨g2, o2, rfl, hg2, hp2⟩ := HA2.out.resolve_left (by intro e; rw [e] at hlt; simp at hlt)
      have hmy := List.getElem?_eq_getElem hlt
      generalize L[k] = y at *
      obtain ⟨rvy, tvy, hoy⟩ := hp2 k y hmy
      obtain ⟨Ar2, cr, hrv, _, hAr⟩ := id hoy.refs
      subst hrv
      have hym := List.mem_of_getElem? hmy
      obtain ⟨hmb, hyl, _, _⟩ := HL2.out y hym
      have hwy := HWY.out hmb
      rw [hwy] at hym
      have hyw := (List.mem_filter.1 hym).2
      have hok := HOK.out y hyl
      have hyn := hok.2.1
      have HREF := hide hAr
      have HOY4 := hide (fun W (hb : Below w2.heap.size w2 W) => (hoy.below hg2 hb).c4)
      have HOY0 := hide (fun W (hb : Below w2.heap.size w2 W) => (hoy.below hg2 hb).c0)
      have HNO := hide (show ∀ s ∈ y.refs, isNode l s = true from fun s hs => by
        unfold wayB at hyw
        rw [Bool.and_eq_true] at hyw
        exact List.all_eq_true.1 hyw.2 s hs)
      have hX := flat_len l (L.take k) (fun o ho => (HOK.out o (HL2.out o (List.mem_of_mem_take ho)).2.1).2.1)
      rw [List.length_take] at hX
      have hX2 : ((L.take k).flatMap (wayA l)).length ≤ 20000000000 := by
        have : min k L.length ≤ 100000 := by omega
        omega
      have HFS := hide (flat_snoc l hmy)
      have HM := hide hmb
      generalize (L.take k).flatMap (wayA l) = X at *
      have k0 : (0 : Int) ≤ k := by omega
      have k1 : (k : Int) < L.length := by omega
      have HKL := hide hlt
      have HMS := hide (show L.length - (k + 1) < L.length - k from by omega)
      have d4 := HOY4.out _ HAW.out.below
      have HX2 := hide hX2
      clear hlt hmy hoy hp2 hAr hmb hyl hwy hym hyw hok hX hX2
      go_wp2_with fail
      clear d4
      go_loopw [3, 6] (fun out i wr => ∃ (m : Nat) (R : List Ar) (Ao : Option Addr) (co : Nat), m ≤ y.refs.length ∧ i = .int .i64 m ∧ out = .slice Ao R.length co ∧ Hid (AowI w2 R (.slice Ao R.length co) wr) ∧ Hid (R = onceA [] (X ++ arcsP l y.id (y.refs.take (m + 1)))) ∧ Hid (∀ x ∈ R, x.n = lenA l x.f x.t)) (fun _ i _ => y.refs.length - (intOf i).toNat)
      case atStart => exact ⟨0, R, Ao, co, Nat.zero_le _, rfl, rfl, HAW, by rw [HR.out]; cases y.refs <;> exact hide (by simp [arcsP]), HALL⟩
      case round =>
        clear HAW HR HALL
        obtain ⟨m, R, Ao, co, hm, rfl, rfl, haw, hR, hall⟩ := hrel
        have HAW := hide haw.out
        have HR := hide hR.out
        have HALL := hide hall.out
        have d4 := HOY4.out _ HAW.out.below
        clear haw hR hall
        by_cases hlt : m + 1 < y.refs.length
        · obtain ⟨gr, o3, rfl, hgr, hst⟩ := HREF.out.resolve_left (by intro e; rw [e] at hlt; simp at hlt)
          have hxa := List.getElem?_eq_getElem (show m < y.refs.length by omega)
          have hxb := List.getElem?_eq_getElem hlt
          generalize y.refs[m] = a at *
          generalize y.refs[m + 1] = b at *
          have HFA := hide (fun W (hb : Below w2.heap.size w2 W) => (hb.cell (p := ⟨gr, _, none⟩) hgr).trans (hst m a hxa))
          have HFB := hide (fun W (hb : Below w2.heap.size w2 W) => (hb.cell (p := ⟨gr, _, none⟩) hgr).trans (hst (m + 1) b hxb))
          have hna := HNO.out a (List.mem_of_getElem? hxa)
          have hnb := HNO.out b (List.mem_of_getElem? hxb)
          have HST := hide (once_two X l y.id hxa hxb (lenA_comm HM.out hnb hna))
          rw [← HR.out] at HST
          have hRl : R.length ≤ 50000000000 := by
            have h1 := once_le X (arcsP l y.id (y.refs.take (m + 1)))
            have h2 := arcsP_len l y.id (y.refs.take (m + 1))
            rw [List.length_take] at h2
            have h3 := HX2.out
            rw [← HR.out] at h1
            omega
          have HC1 := hide (arc16_any l _ HM.out a b y.id R Ao co w2 wr.drew HV2.out HW2.out hna hnb (by omega) HALL.out (HAW.out.lift (below_drew wr)))
          have HALL1 := hide (addA_len l HALL.out a b y.id)
          have HLE1 := hide (addA_le R ⟨a, b, y.id, lenA l a b⟩)
          generalize addA R ⟨a, b, y.id, lenA l a b⟩ = R1 at *
          have HALL2 := hide (addA_len l HALL1.out b a y.id)
          have HC2 := hide (fun (A1 : Option Addr) (c1 : Nat) (W : World) (h : AowI w2 R1 (.slice A1 R1.length c1) W) => arc16_any l _ HM.out b a y.id R1 A1 c1 w2 W HV2.out HW2.out hnb hna (by have := HLE1.out; omega) HALL1.out h)
          generalize addA R1 ⟨b, a, y.id, lenA l b a⟩ = R2 at *
          have m0 : (0 : Int) ≤ m := by omega
          have m1 : (m : Int) + 1 < y.refs.length := by omega
          have m2 : (m : Int) < y.refs.length := by omega
          have m3 : (0 : Int) ≤ (m : Int) + 1 := by omega
          have s1 : IntKind.i64.wrap ((m : Int) + 1) = (m : Int) + 1 := IntWalk.i64_in _ (by omega)
          have s2 : ((m : Int) + 1).toNat = m + 1 := by omega
          have HML := hide hlt
          have HMM := hide (show y.refs.length - (m + 1) < y.refs.length - m from by omega)
          have fa := HFA.out _ (HAW.out.below.trans (below_drew wr |>.mono HAW.out.below.size))
          have fb := HFB.out _ (HAW.out.below.trans (below_drew wr |>.mono HAW.out.below.size))
          have d0 := HOY0.out _ (HAW.out.below.trans (below_drew wr |>.mono HAW.out.below.size))
          have d5 := HOY4.out _ (HAW.out.below.trans (below_drew wr |>.mono HAW.out.below.size))
          have dm := (blk1 (blkB (HAW.out.below.trans (below_drew wr |>.mono HAW.out.below.size)) HBM.out)).1
          clear hlt hxa hxb hst hna hnb hRl
          go_wp2_with fail
          go_still_tail 24, (by kernel_rfl)
          change wpList _ _ _ _ _ wr.drew
          go_wp2_with fail
          refine HC1.out.mono ?_
          rintro _ w7 ⟨rv1, rfl, haw1⟩
          obtain ⟨A1, c1, rfl⟩ := haw1.slice
          have HAW1 := hide haw1
          have HCB := hide (HC2.out A1 c1 w7.drew (haw1.lift (below_drew w7)))
          have hb7 := haw1.below.trans (below_drew w7 |>.mono haw1.below.size)
          clear fa fb d0 d5 dm HC1 HC2 d4 HAW
          have fa := HFA.out _ hb7
          have fb := HFB.out _ hb7
          have d0 := HOY0.out _ hb7
          have d5 := HOY4.out _ hb7
          have dm := (blk1 (blkB hb7 HBM.out)).1
          clear haw1 hb7
          go_wp2_with fail
          go_still_tail 24, (by kernel_rfl)
          change wpList _ _ _ _ _ w7.drew
          go_wp2_with fail
          refine HCB.out.mono ?_
          rintro _ w8 ⟨rv2, rfl, haw2⟩
          obtain ⟨A3, c3, rfl⟩ := haw2.slice
          have HAW2 := hide haw2
          have HR2 : Hid (R2 = onceA [] (X ++ arcsP l y.id (y.refs.take (m + 1 + 1)))) := HST.out.symm
          clear fa fb d0 d5 dm haw2 HCB HAW1
          go_wp2_with fail
          refine ⟨⟨m + 1, R2, A3, c3, by have := HML.out; omega, by go_num, rfl, HAW2, HR2, HALL2⟩, ?_⟩
          have := HMM.out
          simp [intOf]; omega
        · have m1 : ¬ (m : Int) + 1 < y.refs.length := by omega
          have HR3 : Hid (R = onceA [] ((L.take (k + 1)).flatMap (wayA l))) := by
            rw [HFS.out, HR.out, List.take_of_length_le (by omega)]
            exact hide rfl
          clear hlt HR
          go_wp2_with fail
          refine ⟨⟨k + 1, R, Ao, co, HKL.out, by go_num, rfl, HAW, HR3, HALL⟩, ?_⟩
          have := HMS.out
          simp [intOf]; omega
    · obtain rfl : k = L.length := by omega
      have hR2 := HR.out
      rw [List.take_length] at hR2
      have HE : Hid (R = F) := by
        rw [hR2, ← HF.out]
        cases hmb : mapB l with
        | true =>
          rw [if_pos rfl, HWY.out hmb, ways_arcs hmb]
          exact hide rfl
        | false =>
          rw [if_neg (by decide), HLF.out hmb]
          exact hide rfl
      have k1 : ¬ (L.length : Int) < L.length := by omega
      clear hR2 hlt HR HALL
      go_wp2_with fail
      go_ret
      exact ⟨_, rfl, by rw [← HE.out]; exact HAW.out.ars, bto HB2.out HAW.out.below⟩
end Go.Proofs.Ytpiocaomlifljaa
