/-
  Findings of the example's two rules, walked.
-/
import Derived.Test.YtoodmhlefaepaaaGreatRulN
namespace Go.Proofs.YtoodmhlefaepaaaGreat
open Go.RowKit Go.Proofs.PlLex Go.Proofs.PlNet Go.Proofs.PlRule

def rAB : List Rl := [rA, rB]
theorem brk_any (x : Rl) (hx : x ∈ rAB) (o : Ob) (hk : o.kind = 1) (A : Option Addr) (n c : Nat) (tv vv : Value) (bx bm : Nat) (w : World) (hb : RlB x vv bx w) (ht : TgS w tv o.tags) (hv : StS w vv x.vals) (hl : o.tags.length ≤ 100000) :
    Calls Tryz.prog 61 #[vOb o (.slice A n c) tv, .pointer (some ⟨bx, 0, none⟩), .pointer (some ⟨bm, 0, none⟩)] w fun e w' => e = .returned (.bool (brk x o)) ∧ Below w.heap.size w w' := by
  rcases List.mem_cons.1 hx with rfl | hx
  · exact brkA o A n c tv vv bx bm w hb ht hv hl
  · rw [List.mem_singleton] at hx
    subst hx
    exact brkB o hk A n c tv vv bx bm w hb ht hl
def cellsF : List (Nat × BA) → List Value
  | [] => []
  | x :: r => [.int .i64 (x.1 : Int), .string x.2] ++ cellsF r
theorem cellsF_app (a b : List (Nat × BA)) : cellsF (a ++ b) = cellsF a ++ cellsF b := by
  induction a with
  | nil => rfl
  | cons x a ih => simp only [List.cons_append, cellsF, ih, List.append_assoc]
theorem cellsF_get (l : List (Nat × BA)) (i : Nat) (x : Nat × BA) (h : l[i]? = some x) : (cellsF l)[i * 2]? = some (.int .i64 (x.1 : Int)) ∧ (cellsF l)[i * 2 + 1]? = some (.string x.2) := by
  induction l generalizing i with
  | nil => simp at h
  | cons y l ih =>
    cases i with
    | zero =>
      simp only [List.getElem?_cons_zero, Option.some.injEq] at h
      subst h
      exact ⟨rfl, rfl⟩
    | succ i =>
      rw [List.getElem?_cons_succ] at h
      obtain ⟨h1, h2⟩ := ih i h
      rw [show (i + 1) * 2 = i * 2 + 1 + 1 by omega]
      exact ⟨h1, h2⟩
/-- A slice value that reads as findings. -/
def FnS (W : World) (v : Value) (L : List (Nat × BA)) : Prop := ∃ A c, v = .slice A L.length c ∧ (L = [] ∨ ∃ g, A = some ⟨g, 0, none⟩ ∧ g < W.heap.size ∧ ∀ (i : Nat) x, L[i]? = some x → W.cell? ⟨g, i * 2, none⟩ = some (.int .i64 (x.1 : Int)) ∧ W.cell? ⟨g, i * 2 + 1, none⟩ = some (.string x.2))
theorem FnS.below {W W' : World} {v : Value} {L : List (Nat × BA)} (h : FnS W v L) (hb : Below W.heap.size W W') : FnS W' v L := by
  obtain ⟨A, c, hv, h⟩ := h
  refine ⟨A, c, hv, ?_⟩
  rcases h with h | ⟨g, hA, hg, hp⟩
  · exact .inl h
  · exact .inr ⟨g, hA, Nat.lt_of_lt_of_le hg hb.size, fun i x hx => ⟨(hb.cell (p := ⟨g, _, none⟩) hg).trans (hp i x hx).1, (hb.cell (p := ⟨g, _, none⟩) hg).trans (hp i x hx).2⟩⟩
theorem own_fns {w : World} {B : Nat} {v : Value} {l : List (Nat × BA)} (h : w.ownsRow B 50 2 v l.length (cellsF l)) : FnS w v l := by
  rcases h.2 with ⟨rfl, h0⟩ | ⟨g, cap, cur, rfl, hg, hh, hc, _⟩
  · exact ⟨none, 0, by rw [h0], .inl (List.length_eq_zero_iff.1 h0)⟩
  · refine ⟨some ⟨g, 0, none⟩, cap, rfl, .inr ⟨g, rfl, lt_of_blk hh, fun i x hx => ?_⟩⟩
    obtain ⟨h1, h2⟩ := cellsF_get l i x hx
    have k1 := World.ownsRow.cells h (g := g) rfl _ _ h1
    have k2 := World.ownsRow.cells h (g := g) rfl _ _ h2
    rw [addr_add] at k1 k2
    exact ⟨k1, k2⟩
def findR (i : Nat) (x : Rl) (ol : List Ob) : List (Nat × BA) := (ol.filter (brk x)).map (fun o => (i, o.id))
def findK (ol : List Ob) : Nat → List (Nat × BA)
  | 0 => []
  | k + 1 => findK ol k ++ findR k (rAB.getD k rA) ol
theorem findR_len (i : Nat) (x : Rl) (ol : List Ob) : (findR i x ol).length ≤ ol.length := by
  unfold findR
  rw [List.length_map]
  exact List.length_filter_le _ _
theorem findK_len (ol : List Ob) (k : Nat) : (findK ol k).length ≤ k * ol.length := by
  induction k with
  | zero => exact Nat.zero_le _
  | succ k ih =>
    rw [findK, List.length_append, Nat.succ_mul]
    have := findR_len k (rAB.getD k rA) ol
    omega
theorem findR_snoc (i : Nat) (x : Rl) (ol : List Ob) (j : Nat) (o : Ob) (h : ol[j]? = some o) : findR i x (ol.take (j + 1)) = findR i x (ol.take j) ++ (if brk x o = true then [(i, o.id)] else []) := by
  obtain ⟨hlt, rfl⟩ := List.getElem?_eq_some_iff.1 h
  unfold findR
  rw [List.take_succ_eq_append_getElem hlt, List.filter_append, List.map_append]
  congr 1
  by_cases hb : brk x ol[j] = true
  · rw [if_pos hb]
    simp [hb]
  · rw [if_neg hb]
    simp [hb]
theorem info_fn : (Tryz.prog.info? 50).map (fun i => (i.zero, i.size, i.bytes)) = some (some (.agg #[.int .i64 0, .string ⟨#[]⟩]), 2, 24) := by kernel_rfl
/-- The findings so far, in a row of the call's own; and the memory that was there. -/
structure FnI (w : World) (L : List (Nat × BA)) (v : Value) (W : World) : Prop where
  row : W.ownsRow w.heap.size 50 2 v L.length (cellsF L)
  below : Below w.heap.size w W
theorem own_keep {w w' : World} {B : Nat} {e : TypeId} {sz : Nat} {v : Value} {n : Nat} {xs : List Value} (h : w.ownsRow B e sz v n xs) (hb : Below w.heap.size w w') : w'.ownsRow B e sz v n xs := by
  obtain ⟨h1, h2⟩ := h
  refine ⟨h1, ?_⟩
  rcases h2 with h2 | ⟨g, cap, cur, hv, hg, hh, r⟩
  · exact .inl h2
  · exact .inr ⟨g, cap, cur, hv, hg, (hb.block g (lt_of_blk hh)).trans hh, r⟩
theorem FnI.lift {w : World} {L : List (Nat × BA)} {v : Value} {W W' : World} (h : FnI w L v W) (hb : Below W.heap.size W W') : FnI w L v W' := ⟨own_keep h.row hb, bto h.below hb⟩
theorem RlB.grown {x : Rl} {vv v : Value} {bx : Nat} {W W' : World} (h : RlB x vv bx W) {B n : Nat} {xs : List Value} (ho : W.ownsRow B 50 2 v n xs) (hg : W.grownBy W' v.ownBlock) : RlB x vv bx W' := by
  refine ⟨(hg.block bx (lt_of_blk h.blk) (fun e => ?_)).trans h.blk⟩
  obtain ⟨cur, hc⟩ := own_objs ho e.symm
  rw [h.blk] at hc
  simp at hc
theorem below_row {a b c : World} {row : Option Nat} (h : Below a.heap.size a b) (hg : b.grownBy c row) (hk : ∀ r, row = some r → a.heap.size ≤ r) : Below a.heap.size a c :=
  ⟨hg.os.trans h.os, hg.tape.trans h.tape, hg.output.trans h.output, Nat.le_trans h.size hg.size, fun i hi => (hg.block i (Nat.lt_of_lt_of_le hi h.size) (fun e => by have := hk i e.symm; omega)).trans (h.block i hi)⟩
set_option maxRecDepth 100000 in
set_option maxHeartbeats 8000000 in
theorem findings_any (ol : List Ob) (hk : ∀ o ∈ ol, o.kind = 1) (hn : ol.length ≤ 100000) (hok : ∀ o ∈ ol, okO o) (hm : mapB ol = true) (vm vl : Value) (w : World) (hmv : ObsS w vm ol) (hlv : RlS w vl rAB) :
    Calls Tryz.prog 14 #[.agg #[vm], vl] w fun e w' => ∃ v, e = .returned v ∧ FnS w' v (findK ol 2) ∧ Below w.heap.size w w' := by
  obtain ⟨i0, hi, hz0, hz1, hz2⟩ := info_split info_fn
  have HI := hide hi
  have HZ0 := hide hz0
  have HZ1 := hide hz1
  have HZ2 := hide hz2
  have HPV := hide (fun W (b : Below w.heap.size w W) => pvalid_any rAB vl W (hlv.below b) (by decide) (by
    intro s hs
    rcases List.mem_cons.1 hs with rfl | hs
    · exact ⟨by decide, by decide, by decide, by decide, by decide, by decide⟩
    · rw [List.mem_singleton] at hs
      subst hs
      exact ⟨by decide, by decide, by decide, by decide, by decide, by decide⟩))
  rw [show validL rAB = true from by decide +kernel] at HPV
  have HAV := hide (fun W (b : Below w.heap.size w W) => avalid_any ol vm W (hmv.below b) hn hok)
  rw [hm] at HAV
  have HK := hide hk
  have HOK := hide hok
  obtain ⟨Am, cm, rfl, _, hAm⟩ := id hmv
  obtain ⟨Al, cl, rfl, _, hAl⟩ := id hlv
  have HAM := hide hAm
  have HAL := hide hAl
  obtain ⟨w0, hw0⟩ : ∃ w0, w.alloc (.cells #[.slice Am ol.length cm] 45) = w0 := ⟨_, rfl⟩
  have hb0 : Below w.heap.size w w0 := by rw [← hw0]; exact (Below.refl _ _).alloc (Nat.le_refl _) _
  have hm0 : w0.heap[w.heap.size]? = some (.cells #[.slice Am ol.length cm] 45 (0, 0)) := by rw [← hw0]; exact heap_alloc_new _ _
  obtain ⟨bm, hbm⟩ : ∃ bm, w.heap.size = bm := ⟨_, rfl⟩
  have HB0 := hide hb0
  rw [hbm] at hm0
  have HM0 := hide hm0
  clear hk hok hm hmv hlv hAm hAl hi hz0 hz1 hz2 hb0 hm0
  go_enter Tryz.func14, Tryz.ntmps14
  go_wp2_with fail
  refine (HPV.out w0 HB0.out).mono ?_
  rintro _ w1 ⟨rfl, b1⟩
  have HB1 := hide (bto HB0.out b1)
  have HM1 := hide (blkB b1 HM0.out)
  have c1 := cell_of_row w1 bm 0 _ _ _ HM1.out
  simp only [List.getElem?_toArray, List.getElem?_cons_zero] at c1
  clear b1 hw0
  go_wp2_with fail
  refine (HAV.out w1 HB1.out).mono ?_
  rintro _ w2 ⟨rfl, b2⟩
  have HB2 := hide (bto HB1.out b2)
  have HM2 := hide (blkB b2 HM1.out)
  clear c1 b2 HPV HAV
  go_wp2_with fail
  go_loopw [5, 21] (fun s i wr => ∃ (k : Nat) (A : Option Addr) (c : Nat), k ≤ 2 ∧ i = .int .i64 k ∧ s = .slice A (findK ol k).length c ∧ Hid (FnI w2 (findK ol k) s wr)) (fun _ i _ => 2 - (intOf i).toNat)
  case atStart => exact ⟨0, none, 0, by omega, rfl, rfl, hide ⟨World.ownsRow_nil _ _ _ _, Below.refl _ _⟩⟩
  case round =>
    obtain ⟨k, A, c, hk, rfl, rfl, hfn⟩ := hrel
    have HFN := hide hfn.out
    have HBW := hide (bto HB2.out HFN.out.below)
    have hm3 := blkB HFN.out.below HM2.out
    by_cases hlt : k < 2
    · obtain ⟨g, o, rfl, hg, hp⟩ := HAL.out.resolve_left (by decide)
      obtain ⟨x, hkx⟩ : ∃ x, rAB[k]? = some x := ⟨_, List.getElem?_eq_getElem (show k < rAB.length from hlt)⟩
      have hxm := List.mem_of_getElem? hkx
      have hgd : rAB.getD k rA = x := by rw [List.getD_eq_getElem?_getD, hkx]; rfl
      obtain ⟨v1, hat⟩ := hp k x hkx
      obtain ⟨A1, c1, rfl, _, _⟩ := id hat.vals
      obtain ⟨d0, d1, d2, d3, d4, d5, d6, d7, _⟩ := hat.below hg HBW.out
      have HVS := hide hat.vals
      obtain ⟨wx, hwx⟩ : ∃ wx, wr.alloc (.cells #[.bool x.strict, .string x.area, .int .i64 x.kind, .string x.ik, .string x.iv, .int .i64 x.op, .string x.key, .slice A1 x.vals.length c1] 37) = wx := ⟨_, rfl⟩
      have hb3 : Below wr.heap.size wr wx := by rw [← hwx]; exact (Below.refl _ _).alloc (Nat.le_refl _) _
      have hr3 : RlB x (.slice A1 x.vals.length c1) wr.heap.size wx := ⟨by rw [← hwx]; exact heap_alloc_new _ _⟩
      obtain ⟨e0, e1, e2, e3, e4, e5, e6, e7⟩ := hr3.c'
      have hm4 := blkB hb3 hm3
      have m4 := cell_of_row wx bm 0 _ _ _ hm4
      simp only [List.getElem?_toArray, List.getElem?_cons_zero] at m4
      have HM4 := hide hm4
      have HF3 := hide (HFN.out.lift hb3)
      have HBR := hide (broken_any Am ol.length cm x A1 x.vals.length c1 wx)
      unfold vRl at HBR
      have k0 : (0 : Int) ≤ k := by omega
      have k1 : (k : Int) < (rAB.length : Nat) := by have : rAB.length = 2 := rfl; omega
      have HXM := hide hxm
      have HGD := hide hgd
      have HKL := hide hlt
      have HMS := hide (show 2 - (k + 1) < 2 - k from by omega)
      clear hlt hkx hp hat hb3 hr3 hm3 hm4 hxm hgd hfn
      go_wp2_with fail
      refine HBR.out.mono ?_
      rintro _ w5 ⟨rfl, hr5, b5⟩
      have HF5 := hide (HF3.out.lift b5)
      have HM5 := hide (blkB b5 HM4.out)
      have m5 := cell_of_row w5 bm 0 _ _ _ HM5.out
      simp only [List.getElem?_toArray, List.getElem?_cons_zero] at m5
      obtain ⟨bx, hbx⟩ : ∃ bx, wx.heap.size + 1 = bx := ⟨_, rfl⟩
      obtain ⟨by_, hby⟩ : ∃ bx, wx.heap.size = bx := ⟨_, rfl⟩
      rw [hbx] at hr5 ⊢
      rw [hby]
      have HR5 := hide hr5
      clear hr5 b5 HF3 HM4 HBR hwx hbx hby d0 d1 d2 d3 d4 d5 d6 d7 e0 e1 e2 e3 e4 e5 e6 e7 m4
      go_wp2_with fail
      go_loopw [5, 32] (fun s i wq => ∃ (j : Nat) (A : Option Addr) (c : Nat), j ≤ ol.length ∧ i = .int .i64 j ∧ s = .slice A (findK ol k ++ findR k x (ol.take j)).length c ∧ Hid (FnI w2 (findK ol k ++ findR k x (ol.take j)) s wq) ∧ Hid (RlB x (.slice A1 x.vals.length c1) bx wq)) (fun _ i _ => ol.length - (intOf i).toNat)
      case atStart =>
        have e : findK ol k ++ findR k x (ol.take 0) = findK ol k := by simp [findR]
        exact ⟨0, A, c, Nat.zero_le _, rfl, by rw [e], (by rw [e]; exact HF5), HR5⟩
      case round =>
        obtain ⟨j, A, c, hj, rfl, rfl, hfn, hrl⟩ := hrel
        obtain ⟨L, hL⟩ : ∃ L, findK ol k ++ findR k x (ol.take j) = L := ⟨_, rfl⟩
        rw [hL] at hfn ⊢
        have HLL := hide hL
        clear hL
        have HFJ := hide hfn.out
        have HRJ := hide hrl.out
        have HBJ := hide (bto HB2.out hfn.out.below)
        by_cases hlt : j < ol.length
        · obtain ⟨g2, o2, rfl, hg2, hp2⟩ := HAM.out.resolve_left (by rintro e; rw [e] at hlt; simp at hlt)
          obtain ⟨ob, hob⟩ : ∃ ob, ol[j]? = some ob := ⟨_, List.getElem?_eq_getElem hlt⟩
          have hom := List.mem_of_getElem? hob
          obtain ⟨rv, tv, hoa⟩ := hp2 j ob hob
          obtain ⟨Ar, cr, rfl, _, _⟩ := id hoa.refs
          obtain ⟨At, ct, rfl, _⟩ := id hoa.tags
          have htg := hoa.tags.below HBJ.out
          have hvs := HVS.out.below HBJ.out
          obtain ⟨d0, d1, d2, d3, d4, d5, _, _⟩ := hoa.below hg2 HBJ.out
          obtain ⟨wo, hwo⟩ : ∃ wo, wr.alloc (.cells #[.string ob.id, .int .i64 ob.kind, .int .i64 ob.x, .int .i64 ob.y, .slice Ar ob.refs.length cr, .slice At ob.tags.length ct] 42) = wo := ⟨_, rfl⟩
          have hb6 : Below wr.heap.size wr wo := by rw [← hwo]; exact (Below.refl _ _).alloc (Nat.le_refl _) _
          have ho6 : wo.heap[wr.heap.size]? = some (.cells #[.string ob.id, .int .i64 ob.kind, .int .i64 ob.x, .int .i64 ob.y, .slice Ar ob.refs.length cr, .slice At ob.tags.length ct] 42 (0, 0)) := by rw [← hwo]; exact heap_alloc_new _ _
          obtain ⟨bo, hbo⟩ : ∃ bo, wr.heap.size = bo := ⟨_, rfl⟩
          have HF6 := hide (HFJ.out.lift hb6)
          have hr6 : RlB x (.slice A1 x.vals.length c1) bx wo := ⟨blkB hb6 HRJ.out.blk⟩
          have HR6 := hide hr6
          have HCL := hide (brk_any x HXM.out ob (HK.out ob hom) Ar ob.refs.length cr _ _ bx by_ wo hr6 (htg.below hb6) (hvs.below hb6) (HOK.out ob hom).2.2.2.1)
          unfold vOb at HCL
          rw [hbo] at ho6
          have HO6 := hide ho6
          have e0 := cell_of_row wo bo 0 _ _ _ ho6
          have e1 := cell_of_row wo bo 1 _ _ _ ho6
          have e2 := cell_of_row wo bo 2 _ _ _ ho6
          have e3 := cell_of_row wo bo 3 _ _ _ ho6
          have e4 := cell_of_row wo bo 4 _ _ _ ho6
          have e5 := cell_of_row wo bo 5 _ _ _ ho6
          simp only [List.getElem?_toArray, List.getElem?_cons_zero, List.getElem?_cons_succ] at e0 e1 e2 e3 e4 e5
          have hsn : findK ol k ++ findR k x (ol.take (j + 1)) = L ++ (if brk x ob = true then [(k, ob.id)] else []) := by rw [findR_snoc k x ol j ob hob, ← List.append_assoc, HLL.out]
          have HSN := hide hsn
          have j0 : (0 : Int) ≤ j := by omega
          have j1 : (j : Int) < (ol.length : Nat) := by omega
          have HJL := hide hlt
          have HJS := hide (show ol.length - (j + 1) < ol.length - j from by omega)
          have HFL := hide (show L.length ≤ 300000 from by
            rw [← HLL.out]
            have h1 := findK_len ol k
            have h2 := findR_len k x (ol.take j)
            have h3 : k * ol.length ≤ 2 * ol.length := Nat.mul_le_mul_right _ (by have := HKL.out; omega)
            rw [List.length_take] at h2
            rw [List.length_append]
            omega)
          clear hlt hob hom hoa htg hvs hb6 ho6 hr6 hsn hfn hrl hp2
          go_wp2_with fail
          refine HCL.out.mono ?_
          rintro _ wc ⟨rfl, b7⟩
          have HF7 := hide (HF6.out.lift b7)
          have HR7 := hide (show RlB x (.slice A1 x.vals.length c1) bx wc from ⟨blkB b7 HR6.out.blk⟩)
          have f0 := cell_of_row wc bo 0 _ _ _ (blkB b7 HO6.out)
          simp only [List.getElem?_toArray, List.getElem?_cons_zero] at f0
          clear b7 hwo hbo d0 d1 d2 d3 d4 d5 e0 e1 e2 e3 e4 e5 HFJ HRJ HF6 HR6 HO6 HCL
          cases hq : brk x ob with
          | false =>
            rw [hq, if_neg (by decide), List.append_nil] at HSN
            clear hq
            go_wp2_with fail
            refine ⟨⟨j + 1, A, c, HJL.out, by go_num, by rw [HSN.out], by rw [HSN.out]; exact HF7, HR7⟩, ?_⟩
            have := HJS.out
            simp [intOf]; omega
          | true =>
            rw [hq, if_pos rfl] at HSN
            clear hq
            have hfl := HFL.out
            clear HFL
            go_wp2_with (at_builtin; go_must (refine wpList_append_lies _ rfl (.tmp 39) (.tmp 44) 47 rfl w2.heap.size 50 i0 (.agg #[.int .i64 0, .string ⟨#[]⟩]) 2 24 Tryz.underlying47 HI.out HZ0.out HZ1.out HZ2.out rfl (by decide) (.slice A L.length c) L.length (cellsF L) rfl ?c0 ⟨wc.heap.size, 0, none⟩ 1 1 [.int .i64 (k : Int), .string ob.id] rfl rfl ?c1 ?c2 (by decide) ?c3 ?c4 ?c5 (wc.heap.size + 1) ?c6 ?_))
            case c0 => exact own_keep HF7.out.row ((Below.refl _ _).alloc (Nat.le_refl _) _)
            case c1 =>
              intro j u hj
              exact rnew_cells wc [.int .i64 (k : Int), .string ob.id] 50 j u hj
            case c2 => intro u hu; simp at hu; rcases hu with rfl | rfl <;> rfl
            case c3 => unfold maxLen; omega
            case c4 => omega
            case c5 => have := HF7.out.below.size; simp; omega
            case c6 => simp
            intro g9 cap w9 hown9 hgrow9 hat9 _
            have HF9 : Hid (FnI w2 (L ++ [(k, ob.id)]) (.slice (some ⟨g9, 0, none⟩) (L.length + 1) cap) w9) := by
              refine ⟨?_, ?_⟩
              · rw [cellsF_app, List.length_append]
                exact hown9
              · exact below_row (bto HF7.out.below ((Below.refl _ _).alloc (Nat.le_refl _) _)) hgrow9 (fun r hr => own_blk HF7.out.row hr)
            have HR9 : Hid (RlB x (.slice A1 x.vals.length c1) bx w9) := hide (RlB.grown (⟨blkB ((Below.refl _ _).alloc (Nat.le_refl _) _) HR7.out.blk⟩) (own_keep HF7.out.row ((Below.refl _ _).alloc (Nat.le_refl _) _)) hgrow9)
            clear hown9 hgrow9 hat9 f0 hfl HF7 HR7
            go_wp2_with fail
            refine ⟨⟨j + 1, some ⟨g9, 0, none⟩, cap, HJL.out, by go_num, by rw [HSN.out]; simp, by rw [HSN.out]; exact HF9, HR9⟩, ?_⟩
            have := HJS.out
            simp [intOf]; omega
        · obtain rfl : j = ol.length := by omega
          have e : findK ol (k + 1) = L := by rw [← HLL.out, List.take_length, findK, HGD.out]
          have HEN := hide e
          have j1 : ¬ (ol.length : Int) < ol.length := by omega
          clear hfn hrl hlt e HRJ
          go_wp2_with fail
          refine ⟨⟨k + 1, A, c, HKL.out, by go_num, by rw [HEN.out], by rw [HEN.out]; exact HFJ⟩, ?_⟩
          have := HMS.out
          simp [intOf]; omega
    · obtain rfl : k = 2 := by omega
      have k1 : ¬ ((2 : Nat) : Int) < (rAB.length : Nat) := by decide
      have HE := hide (own_fns HFN.out.row)
      clear hlt hfn hm3
      go_wp2_with fail
      go_ret
      exact ⟨_, rfl, HE.out, by rw [← hbm]; exact HBW.out⟩
end Go.Proofs.YtoodmhlefaepaaaGreat
