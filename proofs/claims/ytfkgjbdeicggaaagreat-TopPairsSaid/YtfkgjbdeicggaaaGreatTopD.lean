/-
  slices.DeleteFunc over the sweep's items, walked: the items that end before the next one begins are gone.
-/
import Derived.Test.YtfkgjbdeicggaaaGreatTopC
namespace Go.Proofs.YtfkgjbdeicggaaaGreat
open Go.RowKit Go.Proofs.PlGeom Go.Proofs.PlTop

theorem own_short {W : World} {B g n cap k : Nat} {e : TypeId} {xs : List Value} (h : W.ownsRow B e k (.slice (some ⟨g, 0, none⟩) n cap) n xs) {m : Nat} (hm : m ≤ n) : W.ownsRow B e k (.slice (some ⟨g, 0, none⟩) m cap) m (xs.take (m * k)) := by
  obtain ⟨hl, h2⟩ := h
  rcases h2 with ⟨hv, _⟩ | ⟨g', cap', cur, hv, hB, hb, hc, hx, hs, ht⟩
  · cases hv
  cases hv
  have hmk : m * k ≤ n * k := Nat.mul_le_mul_right k hm
  refine ⟨by rw [List.length_take, hl]; omega, .inr ⟨g, cap, cur, rfl, hB, hb, by omega, hx, hs, ?_⟩⟩
  rw [← ht, List.take_take, Nat.min_eq_left hmk]
theorem own_puts {B g n cap k : Nat} {e : TypeId} (F : List Value) : ∀ {W : World} {xs : List Value} (t m : Nat), m ≤ t → W.ownsRow B e k (.slice (some ⟨g, 0, none⟩) n cap) n xs →
    ∃ xs', (W.setCells g t F).ownsRow B e k (.slice (some ⟨g, 0, none⟩) n cap) n xs' ∧ xs'.take m = xs.take m ∧ W.grownBy (W.setCells g t F) (some g) := by
  induction F with
  | nil => intro W xs t m _ h; exact ⟨xs, h, rfl, ⟨rfl, rfl, rfl, Nat.le_refl _, fun _ _ _ => rfl⟩⟩
  | cons u F ih =>
    intro W xs t m hm h
    obtain ⟨xs', h1, h2, h3⟩ := ih (t + 1) m (by omega) (own_put h t u)
    refine ⟨xs', h1, ?_, ?_⟩
    · rw [h2, List.take_set, List.set_eq_of_length_le (by rw [List.length_take]; omega)]
    · have g1 := own_put_grown W g t u
      exact ⟨h3.os.trans g1.os, h3.tape.trans g1.tape, h3.output.trans g1.output, Nat.le_trans g1.size h3.size, fun i hi hr => (h3.block i (Nat.lt_of_lt_of_le hi g1.size) hr).trans (g1.block i hi hr)⟩
theorem flat_take (l : List It) (m : Nat) : (l.flatMap encI).take (m * 9) = (l.take m).flatMap encI := by
  induction l generalizing m with
  | nil => simp
  | cons x l ih =>
    cases m with
    | zero => simp
    | succ m =>
      rw [List.take_succ_cons, List.flatMap_cons, List.flatMap_cons, ← ih, Nat.succ_mul]
      rfl
theorem keep_all {a : It} {l : List It} (h : endI a l = -1) : actL a l = l := by
  unfold endI at h
  split at h
  · omega
  · rename_i hf
    rw [List.findIdx?_eq_none_iff] at hf
    unfold actL
    rw [List.filter_eq_self]
    intro b hb
    rw [hf b hb]
    rfl
theorem keep_first {a : It} {l : List It} {k : Nat} (h : endI a l = k) : k < l.length ∧ (actL a (l.take (k + 1))) = l.take k := by
  unfold endI at h
  split at h
  · rename_i k' hf
    obtain rfl : k' = k := by omega
    rw [List.findIdx?_eq_some_iff_getElem] at hf
    obtain ⟨hk, hp, hno⟩ := hf
    refine ⟨hk, ?_⟩
    unfold actL
    rw [List.take_add_one, List.getElem?_eq_getElem hk, List.filter_append]
    have e1 : (l.take k').filter (fun b => !decide (b.xh < a.xl)) = l.take k' := by
      rw [List.filter_eq_self]
      intro b hb
      rw [List.mem_take_iff_getElem] at hb
      obtain ⟨j, hj, rfl⟩ := hb
      have := hno j (by omega)
      simpa using this
    rw [e1]
    simp only [Option.toList_some, List.filter_cons, hp, List.filter_nil]
    simp
  · omega
theorem endI_range (a : It) (l : List It) : endI a l = -1 ∨ ∃ k : Nat, endI a l = k := by
  unfold endI
  split
  · rename_i k _
    exact .inr ⟨k, rfl⟩
  · exact .inl rfl
/-- The row of items while it is thinned out. -/
structure DlI (B g n c ni nj : Nat) (a : It) (l : List It) (W W' : World) : Prop where
  out : ∃ M : List It, M.length = n ∧ M.take ni = actL a (l.take nj) ∧ M.drop nj = l.drop nj ∧ W'.ownsRow B 135 9 (.slice (some ⟨g, 0, none⟩) n c) n (M.flatMap encI)
  grown : W.grownBy W' (some g)
theorem DlI.step {B g n c ni nj : Nat} {a : It} {l : List It} {W W' W'' : World} (h : DlI B g n c ni nj a l W W') (hg : Grows W' W'') : DlI B g n c ni nj a l W W'' := by
  obtain ⟨M, h1, h2, h3, h4⟩ := h.out
  have hb := hg.below
  exact ⟨⟨M, h1, h2, h3, own_keep h4 hb⟩, ⟨hb.os.trans h.grown.os, hb.tape.trans h.grown.tape, hb.output.trans h.grown.output, Nat.le_trans h.grown.size hb.size, fun i hi hr => (hb.block i (Nat.lt_of_lt_of_le hi h.grown.size)).trans (h.grown.block i hi hr)⟩⟩
theorem DlI.skip {B g n c ni nj : Nat} {a x : It} {l : List It} {W W' : World} (h : DlI B g n c ni nj a l W W') (hx : l[nj]? = some x) (hp : x.xh < a.xl) : DlI B g n c ni (nj + 1) a l W W' := by
  obtain ⟨M, h1, h2, h3, h4⟩ := h.out
  refine ⟨⟨M, h1, ?_, ?_, h4⟩, h.grown⟩
  · rw [h2]
    unfold actL
    rw [List.take_add_one, hx, List.filter_append]
    simp [hp]
  · rw [← List.drop_drop, h3, List.drop_drop]
theorem DlI.keep {B g n c ni nj : Nat} {a x : It} {l : List It} {W W' : World} (h : DlI B g n c ni nj a l W W') (hx : l[nj]? = some x) (hp : ¬ x.xh < a.xl) (hij : ni < nj) (hjn : nj < n) : DlI B g n c (ni + 1) (nj + 1) a l W (put9 W' g ni x) := by
  obtain ⟨M, h1, h2, h3, h4⟩ := h.out
  obtain ⟨p1, p2⟩ := put9_own h4 (i := ni) (by omega) x
  refine ⟨⟨M.set ni x, by rw [List.length_set, h1], ?_, ?_, p1⟩, ⟨p2.os.trans h.grown.os, p2.tape.trans h.grown.tape, p2.output.trans h.grown.output, Nat.le_trans h.grown.size p2.size, fun i hi hr => (p2.block i (Nat.lt_of_lt_of_le hi h.grown.size) hr).trans (h.grown.block i hi hr)⟩⟩
  · have e1 : actL a (l.take (nj + 1)) = actL a (l.take nj) ++ [x] := by
      unfold actL
      rw [List.take_add_one, hx, List.filter_append]
      simp [hp]
    rw [e1, ← h2, List.take_add_one, List.getElem?_set_self (by omega), List.take_set, List.set_eq_of_length_le (by rw [List.length_take]; omega)]
    rfl
  · rw [List.drop_set_of_lt (by omega), ← List.drop_drop, h3, List.drop_drop]
theorem DlI.item {B g n c ni nj : Nat} {a x : It} {l : List It} {W W' : World} (h : DlI B g n c ni nj a l W W') (hx : l[nj]? = some x) : W'.cell? ⟨g, nj * 9, none⟩ = some (.int .i64 (x.ix : Int)) ∧ W'.cell? ⟨g, nj * 9 + 1, none⟩ = some (.int .i64 x.s.a.x) ∧ W'.cell? ⟨g, nj * 9 + 2, none⟩ = some (.int .i64 x.s.a.y) ∧ W'.cell? ⟨g, nj * 9 + 3, none⟩ = some (.int .i64 x.s.b.x) ∧ W'.cell? ⟨g, nj * 9 + 4, none⟩ = some (.int .i64 x.s.b.y) ∧
      W'.cell? ⟨g, nj * 9 + 5, none⟩ = some (.int .i64 x.xl) ∧ W'.cell? ⟨g, nj * 9 + 6, none⟩ = some (.int .i64 x.xh) ∧ W'.cell? ⟨g, nj * 9 + 7, none⟩ = some (.int .i64 x.yl) ∧ W'.cell? ⟨g, nj * 9 + 8, none⟩ = some (.int .i64 x.yh) := by
  obtain ⟨M, h1, h2, h3, h4⟩ := h.out
  have hM : M[nj]? = some x := by
    have e1 : (M.drop nj)[0]? = (l.drop nj)[0]? := by rw [h3]
    rw [List.getElem?_drop, List.getElem?_drop, Nat.add_zero] at e1
    rw [e1]; exact hx
  exact item_cells h4 hM
theorem DlI.frz {B g n c ni nj : Nat} {a : It} {l : List It} {W W' : World} (h : DlI B g n c ni nj a l W W') (t : Nat) : W'.frozen? ⟨g, t, none⟩ = false := by
  obtain ⟨M, h1, h2, h3, h4⟩ := h.out
  exact own_frz h4 t
theorem DlI.there {B g n c ni nj : Nat} {a : It} {l : List It} {W W' : World} (h : DlI B g n c ni nj a l W W') (t : Nat) (ht : t < n * 9) : ∃ u, W'.cell? ⟨g, t, none⟩ = some u := by
  obtain ⟨M, h1, h2, h3, h4⟩ := h.out
  have hl := h4.1
  exact ⟨_, own_cell h4 t _ (List.getElem?_eq_getElem (by rw [hl]; exact ht))⟩
theorem DlI.fin {B g n c ni : Nat} {a : It} {l : List It} {W W' : World} (h : DlI B g n c ni n a l W W') (hn : n = l.length) (hni : ni ≤ n) (F : List Value) : (W'.setCells g (ni * 9) F).ownsRow B 135 9 (.slice (some ⟨g, 0, none⟩) ni c) (actL a l).length ((actL a l).flatMap encI) ∧ W.grownBy (W'.setCells g (ni * 9) F) (some g) := by
  obtain ⟨M, h1, h2, h3, h4⟩ := h.out
  obtain ⟨xs', q1, q2, q3⟩ := own_puts F (ni * 9) (ni * 9) (Nat.le_refl _) h4
  have e1 := own_short q1 hni
  rw [q2, flat_take, h2, hn, List.take_length] at e1
  have e2 : (actL a l).length = ni := by
    have := congrArg List.length h2
    rw [List.length_take, hn, List.take_length] at this
    omega
  rw [e2]
  exact ⟨e1, ⟨q3.os.trans h.grown.os, q3.tape.trans h.grown.tape, q3.output.trans h.grown.output, Nat.le_trans h.grown.size q3.size, fun i hi hr => (q3.block i (Nat.lt_of_lt_of_le hi h.grown.size) hr).trans (h.grown.block i hi hr)⟩⟩
theorem zero_item : ∀ w, (zeroValue 135).run Tryz.prog w = .ok (.agg #[.int .i64 0, .int .i64 0, .int .i64 0, .int .i64 0, .int .i64 0, .int .i64 0, .int .i64 0, .int .i64 0, .int .i64 0]) w := fun _ => by kernel_rfl
set_option maxRecDepth 100000 in
set_option maxHeartbeats 16000000 in
theorem drop_ended (B gb : Nat) (a : It) (l : List It) (v : Value) (W : World) (h : W.ownsRow B 135 9 v l.length (l.flatMap encI)) (hl : l.length ≤ 1000000) (hb : W.heap[gb]? = some (.cells (encI a).toArray 135 (0, 0))) (hgb : v.ownBlock ≠ some gb) :
    Calls Tryz.prog 64 #[v, .func (Fn.func 65) #[] #[.pointer (some ⟨gb, 0, none⟩)]] W fun e w' => ∃ v', e = .returned v' ∧ w'.ownsRow B 135 9 v' (actL a l).length ((actL a l).flatMap encI) ∧ W.grownBy w' v.ownBlock := by
  have HFE := hide (first_end B gb l.length a l v W h rfl hl hb)
  rcases endI_range a l with hk | ⟨k, hk⟩
  · have HA : Hid (actL a l = l) := hide (keep_all hk)
    rw [hk] at HFE
    have HR := hide h
    obtain ⟨A, c, rfl⟩ : ∃ A c, v = .slice A l.length c := by
      rcases h.2 with ⟨rfl, h0⟩ | ⟨g, cap, cur, rfl, _⟩
      · exact ⟨none, 0, by rw [h0]⟩
      · exact ⟨_, _, rfl⟩
    clear h hb hk
    go_enter Tryz.func64, Tryz.ntmps64
    go_wp2_with fail
    refine HFE.out.mono ?_
    rintro _ w2 ⟨rfl, b2⟩
    have HG2 := hide b2.below
    clear b2
    go_wp2_with fail
    go_ret
    refine ⟨_, rfl, ?_, ⟨HG2.out.os, HG2.out.tape, HG2.out.output, HG2.out.size, fun i hi _ => HG2.out.block i hi⟩⟩
    rw [HA.out]
    exact own_keep HR.out HG2.out
  · obtain ⟨hkl, hkf⟩ := keep_first hk
    rw [hk] at HFE
    obtain ⟨g, c, rfl, hBg, hcap⟩ : ∃ g c, v = .slice (some ⟨g, 0, none⟩) l.length c ∧ B ≤ g ∧ l.length ≤ c := by
      rcases h.2 with ⟨rfl, h0⟩ | ⟨g, cap, cur, rfl, hB, _, hc, _⟩
      · omega
      · exact ⟨g, cap, rfl, hB, hc⟩
    have HD0 : Hid (DlI B g l.length c k (k + 1) a l W W) := hide ⟨⟨l, rfl, hkf.symm, rfl, h⟩, ⟨rfl, rfl, rfl, Nat.le_refl _, fun _ _ _ => rfl⟩⟩
    have HBK := hide hb
    have HGB := hide (show gb ≠ g from fun e => hgb (by rw [e]; rfl))
    have HKL := hide hkl
    have HCP := hide hcap
    obtain ⟨n, hn⟩ : ∃ n, l.length = n := ⟨_, rfl⟩
    have HN := hide hn
    rw [hn] at HFE HD0 HKL HCP hl ⊢
    clear h hb hk hkf hkl hcap hn hBg hgb
    go_enter Tryz.func64, Tryz.ntmps64
    have hkn : ¬ (k : Int) = -1 := by omega
    have hkb : ((k : Int) == -1) = false := beq_eq_false_iff_ne.2 hkn
    have hkm : k ≤ 1000000 := by have := HKL.out; omega
    go_wp2_with fail
    refine HFE.out.mono ?_
    rintro _ w2 ⟨rfl, b2⟩
    have HD2 := hide (HD0.out.step b2)
    clear b2 HFE HD0
    go_wp2_with fail
    go_loopw [5, 6] (fun i j wr => ∃ ni nj : Nat, i = .int .i64 ni ∧ j = .int .i64 nj ∧ ni < nj ∧ nj ≤ n ∧ Hid (DlI B g n c ni nj a l W wr)) (fun _ j _ => n - (intOf j).toNat)
    case atStart => exact ⟨k, k + 1, rfl, by go_num, Nat.lt_succ_self _, HKL.out, HD2⟩
    case round =>
      clear HD2
      obtain ⟨ni, nj, rfl, rfl, hij, hjn, hdl⟩ := hrel
      have HDL := hide hdl.out
      have HIJ := hide hij
      clear hdl
      by_cases hlt : nj < n
      · obtain ⟨x, hks⟩ : ∃ x, l[nj]? = some x := ⟨_, List.getElem?_eq_getElem (show nj < l.length by rw [HN.out]; exact hlt)⟩
        obtain ⟨c0, c1, c2, c3, c4, c5, c6, c7, c8⟩ := HDL.out.item hks
        have HKS := hide hks
        have HLT := hide hlt
        have k0 : (0 : Int) ≤ (nj : Int) := by omega
        have k1 : (nj : Int) < (n : Nat) := by omega
        have hm1 : ni ≤ 1000000 := by omega
        have hm2 : nj ≤ 1000000 := by omega
        have HDX := hide (HDL.out.step ((Grows.refl wr).alloc (.cells (encI x).toArray 135)))
        have hbk : (wr.alloc (.cells (encI x).toArray 135)).heap[gb]? = some (.cells (encI a).toArray 135 (0, 0)) := by
          have hlt := (Array.getElem?_eq_some_iff.1 HBK.out).1
          exact (HDX.out.grown.block gb hlt (fun e => by cases e; exact HGB.out rfl)).trans HBK.out
        have HE := hide (ends_item gb a x _ hbk)
        have hnew := heap_alloc_new wr (.cells (encI x).toArray 135)
        have HNW := hide hnew
        clear hks hlt hbk hnew hij hjn
        unfold encI at HE HDX HNW
        go_wp2_with fail
        generalize wr.alloc (.cells #[.int .i64 (x.ix : Int), .int .i64 x.s.a.x, .int .i64 x.s.a.y, .int .i64 x.s.b.x, .int .i64 x.s.b.y, .int .i64 x.xl, .int .i64 x.xh, .int .i64 x.yl, .int .i64 x.yh] 135) = w3 at *
        by_cases hp : x.xh < a.xl
        · rw [decide_eq_true hp] at HE
          have HP := hide hp
          clear hp
          refine HE.out.mono ?_
          rintro _ w4 ⟨rfl, b4⟩
          have HD4 := hide ((HDX.out.step b4).skip HKS.out HP.out)
          clear b4 HE c0 c1 c2 c3 c4 c5 c6 c7 c8
          have h1 := HLT.out
          have h2 := HIJ.out
          go_wp2_with fail
          refine ⟨⟨ni, nj + 1, rfl, by go_num, by omega, by omega, HD4⟩, ?_⟩
          simp [intOf]; omega
        · rw [decide_eq_false hp] at HE
          have HP : Hid (¬ x.xh < a.xl) := hide hp
          clear hp
          refine HE.out.mono ?_
          rintro _ w4 ⟨rfl, b4⟩
          have hd4 := HDX.out.step b4
          have fz := hd4.frz
          obtain ⟨u70, r0⟩ := hd4.there (ni * 9) (by have := HIJ.out; have := HLT.out; omega)
          obtain ⟨u71, r1⟩ := hd4.there (ni * 9 + 1) (by have := HIJ.out; have := HLT.out; omega)
          obtain ⟨u72, r2⟩ := hd4.there (ni * 9 + 2) (by have := HIJ.out; have := HLT.out; omega)
          obtain ⟨u73, r3⟩ := hd4.there (ni * 9 + 3) (by have := HIJ.out; have := HLT.out; omega)
          obtain ⟨u74, r4⟩ := hd4.there (ni * 9 + 4) (by have := HIJ.out; have := HLT.out; omega)
          obtain ⟨u75, r5⟩ := hd4.there (ni * 9 + 5) (by have := HIJ.out; have := HLT.out; omega)
          obtain ⟨u76, r6⟩ := hd4.there (ni * 9 + 6) (by have := HIJ.out; have := HLT.out; omega)
          obtain ⟨u77, r7⟩ := hd4.there (ni * 9 + 7) (by have := HIJ.out; have := HLT.out; omega)
          obtain ⟨u78, r8⟩ := hd4.there (ni * 9 + 8) (by have := HIJ.out; have := HLT.out; omega)
          have HD5 := hide (hd4.keep HKS.out HP.out HIJ.out HLT.out)
          obtain ⟨e0, e1, e2, e3, e4, e5, e6, e7, e8⟩ := blk9 ((b4.below.block wr.heap.size (Array.getElem?_eq_some_iff.1 HNW.out).1).trans HNW.out)
          clear b4 HE c0 c1 c2 c3 c4 c5 c6 c7 c8 hd4
          have h1 := HLT.out
          have h2 := HIJ.out
          have k2 : (0 : Int) ≤ (ni : Int) := by omega
          have k3 : (ni : Int) < (n : Nat) := by omega
          unfold put9 at HD5
          go_wp2_with fail
          refine ⟨⟨ni + 1, nj + 1, by go_num, by go_num, by omega, by omega, HD5⟩, ?_⟩
          show n - ((nj : Int) + 1).toNat < n - (nj : Int).toNat
          omega
      · obtain rfl : nj = n := by omega
        have h2 := HIJ.out
        have k1 : ¬ (nj : Int) < (nj : Nat) := by omega
        have k2 : (0 : Int) ≤ (ni : Int) := by omega
        have k3 : (ni : Int) ≤ (nj : Nat) := by omega
        have k4 : (ni : Int) ≤ (c : Nat) := by have := HCP.out; omega
        have k5 : (nj : Int) ≤ (c : Nat) := by have := HCP.out; omega
        have k6 : ¬ c = ni := by have := HCP.out; omega
        have hm1 : ni ≤ 1000000 := by omega
        clear hlt
        obtain ⟨F, hF, hcl⟩ := run_clear_k (P := Tryz.prog) wr 130 135 0 (.agg #[.int .i64 0, .int .i64 0, .int .i64 0, .int .i64 0, .int .i64 0, .int .i64 0, .int .i64 0, .int .i64 0, .int .i64 0]) 9 Tryz.underlying130 zero_item rfl (by intro u hu; simp [Value.cells] at hu; subst hu; rfl) g (ni * 9) (nj - ni) (c - ni) (by omega)
          (fun j hj => by obtain ⟨u, hu⟩ := HDL.out.there (ni * 9 + j) (by have : (nj - ni) * 9 = nj * 9 - ni * 9 := Nat.sub_mul ..; omega); rw [hu]; rfl) (fun j _ => HDL.out.frz _)
        have HFN := hide (HDL.out.fin HN.out.symm (by omega) F)
        clear hF
        go_wp2_with fail
        go_ret
        exact ⟨_, rfl, HFN.out⟩
end Go.Proofs.YtfkgjbdeicggaaaGreat
