/-
  The segments of the borders, walked.
-/
import Derived.Test.YtfkgjbdeicggaaaGreatTopK
namespace Go.Proofs.YtfkgjbdeicggaaaGreat
open Go.RowKit Go.Proofs.PlLex Go.Proofs.PlNet Go.Proofs.PlMap Go.Proofs.PlGeom Go.Proofs.PlTop
attribute [local go_sem] Oper.semAt_some run_makeMap

theorem findN_find {l : List Ob} {s : BA} {i : Nat} (h : findN s l = some i) : ∃ o, l[i]? = some o ∧ findO l s = some o := by
  obtain ⟨o, h1, _, _, h4⟩ := findN_some s l i h
  exact ⟨o, h1, h4⟩
theorem findN_ex {l : List Ob} {s : BA} {o : Ob} (h : findO l s = some o) : ∃ i, findN s l = some i := by
  cases e : findN s l with
  | some i => exact ⟨i, rfl⟩
  | none =>
    obtain ⟨h1, h2⟩ := findO_some h
    exact absurd h2 (findN_none s l e o h1)
set_option maxRecDepth 100000 in
set_option maxHeartbeats 8000000 in
theorem point_any (l : List Ob) (hu : uniq l) (pv : Value) (s : BA) (hs : s.size ≤ 100000) (hn : isNode l s = true) (w : World) (h : PcS w l pv) :
    Calls Tryz.prog 32 #[pv, .string s] w fun e w' => e = .returned (.agg #[.int .i64 (ptO l s).x, .int .i64 (ptO l s).y]) ∧ Below w.heap.size w w' := by
  obtain ⟨v, bm, ml, rfl, hi, hms, hf⟩ := h
  obtain ⟨o, _, hfo, _⟩ := node_find hu hn
  obtain ⟨i, hfn⟩ := findN_ex hfo
  obtain ⟨o', hoi, hfo'⟩ := findN_find hfn
  rw [hfo] at hfo'
  cases hfo'
  have hp0 : ptO l s = ⟨o.x, o.y⟩ := by unfold ptO; rw [hfo]
  rw [hp0]
  have hsz : s.size ≤ maxLen := Nat.le_trans hs (by unfold maxLen; omega)
  obtain ⟨w2, hw2⟩ : ∃ w2, (w.alloc (.cells #[v, .map (some bm)] 81)).alloc (.cells #[.int .i64 0, .int .i64 0] 44) = w2 := ⟨_, rfl⟩
  have hb : Below w.heap.size w w2 := by rw [← hw2]; exact ((Below.refl _ _).alloc (Nat.le_refl _) _).alloc (by simp) _
  have hbp : w2.heap[w.heap.size]? = some (.cells #[v, .map (some bm)] 81 (0, 0)) := by
    rw [← hw2]; exact blkB ((Below.refl _ _).alloc (Nat.le_refl _) _) (heap_alloc_new w _)
  have hlook : (Instr.lookup 37 (.map (some bm)) (.string s) false).run Tryz.prog w2 = _ := (hms.kept (bgrow hb) (by simp)).look Tryz.underlying37 zero_int2 (x := s) hsz
  rw [hf, hfn] at hlook
  simp only [Option.map_some, Option.getD_some] at hlook
  obtain ⟨b0, b1⟩ := (blk2 hbp).1
  have hlt := (List.getElem?_eq_some_iff.1 hoi).1
  obtain ⟨A, c, rfl, _, hA⟩ := (hi.below hb).obs
  obtain ⟨g, off, rfl, hg, hp⟩ := hA.resolve_left (by rintro rfl; simp at hlt)
  obtain ⟨rv, tv, hoa⟩ := hp i _ hoi
  have c2 := hoa.c2
  have c3 := hoa.c3
  have i0 : (0 : Int) ≤ (i : Int) := by omega
  have i1 : (i : Int) < l.length := by omega
  have hlen := hi.len
  have hr : w2.heap[w.heap.size + 1]? = some (.cells #[.int .i64 0, .int .i64 0] 44 (0, 0)) := by
    rw [← hw2]
    have := heap_alloc_new (w.alloc (.cells #[.slice (some ⟨g, off, none⟩) l.length c, .map (some bm)] 81)) (.cells #[.int .i64 0, .int .i64 0] 44)
    simpa using this
  obtain ⟨⟨q0, q1⟩, f1, f2⟩ := blk2 hr
  have HB := hide hb
  clear hp hoa hA hi hms hf hu hn hfo hfn hoi hb hbp hlt hp0 hr
  go_enter Tryz.func32, Tryz.ntmps32
  go_wp2_with fail
  exact bodyPost_ret (v := .agg #[.int .i64 o.x, .int .i64 o.y]) (by simp [results, Tryz.results32, go_sem, q0, q1]) rfl ⟨rfl, (HB.out.setCell (by simp) _).setCell (by simp) _⟩
/-- The cells of a segment. -/
def encS (s : Sg) : List Value := [.int .i64 s.a.x, .int .i64 s.a.y, .int .i64 s.b.x, .int .i64 s.b.y]
theorem encS_len (s : Sg) : (encS s).length = 4 := rfl
theorem sgS_of_own {W : World} {B : Nat} {v : Value} {C : List Sg} (h : W.ownsRow B 68 4 v C.length (C.flatMap encS)) : SgS W v C := by
  rcases h.2 with ⟨rfl, h0⟩ | ⟨g, cap, cur, rfl, hB, hb, hc, _⟩
  · exact ⟨none, 0, by rw [h0], .inl (List.length_eq_zero_iff.1 h0)⟩
  · refine ⟨_, _, rfl, .inr ⟨g, 0, rfl, (Array.getElem?_eq_some_iff.1 hb).1, fun i x hi => ?_⟩⟩
    have key : ∀ j u, (C.flatMap encS)[j]? = some u → W.cell? ⟨g, 0 + j, none⟩ = some u := by
      intro j u hj
      have := h.cells (g := g) rfl j u hj
      have e : (⟨g, 0, none⟩ : Addr).add j = ⟨g, 0 + j, none⟩ := by simp only [Addr.add, Nat.zero_add]; split <;> simp_all
      rw [← e]
      exact this
    have k0 := flat_get encS_len C i 0 (by omega)
    have k1 := flat_get encS_len C i 1 (by omega)
    have k2 := flat_get encS_len C i 2 (by omega)
    have k3 := flat_get encS_len C i 3 (by omega)
    rw [hi] at k0 k1 k2 k3
    exact ⟨key _ _ k0, key _ _ k1, key _ _ k2, key _ _ k3⟩
theorem info_seg : (Tryz.prog.info? 68).map (fun i => (i.zero, i.size, i.bytes)) = some (some (.agg #[.int .i64 0, .int .i64 0, .int .i64 0, .int .i64 0]), 4, 32) := by kernel_rfl
/-- The parcel's box, a border's box. -/
structure SgK (w1 : World) (b0 lb bm : Nat) (v ov : Value) (p : Pr) (W : World) : Prop where
  below : Below w1.heap.size w1 W
  pb : W.heap[b0]? = some (.cells #[v, .map (some bm)] 81 (0, 0))
  lb : W.heap[lb]? = some (.cells #[.string p.1, .string p.2, ov] 91 (0, 0))
theorem SgK.step {w1 : World} {b0 lb bm : Nat} {v ov : Value} {p : Pr} {W W' : World} (h : SgK w1 b0 lb bm v ov p W) (hb : Below W.heap.size W W') : SgK w1 b0 lb bm v ov p W' := ⟨bto h.below hb, blkB hb h.pb, blkB hb h.lb⟩
theorem SgK.cells {w1 : World} {b0 lb bm : Nat} {v ov : Value} {p : Pr} {W : World} (h : SgK w1 b0 lb bm v ov p W) : W.cell? ⟨b0, 0, none⟩ = some v ∧ W.cell? ⟨b0, 1, none⟩ = some (.map (some bm)) ∧ W.cell? ⟨lb, 0, none⟩ = some (.string p.1) ∧ W.cell? ⟨lb, 1, none⟩ = some (.string p.2) :=
  ⟨(blk2 h.pb).1.1, (blk2 h.pb).1.2, cell_of_row W _ 0 _ _ _ h.lb, cell_of_row W _ 1 _ _ _ h.lb⟩
theorem SgK.grow {w1 : World} {b0 lb bm : Nat} {v ov : Value} {p : Pr} {W W' : World} {n sz : Nat} {vo : Value} {xs : List Value} (h : SgK w1 b0 lb bm v ov p W) (ho : W.ownsRow w1.heap.size 68 sz vo n xs) (hg : W.grownBy W' vo.ownBlock) : SgK w1 b0 lb bm v ov p W' :=
  ⟨below_row h.below hg (fun r hr => (own_base ho hr).1), (hg.block _ (lt_of_block h.pb) (row_ne_blk ho h.pb (by decide))).trans h.pb, (hg.block _ (lt_of_block h.lb) (row_ne_blk ho h.lb (by decide))).trans h.lb⟩
set_option maxRecDepth 100000 in
set_option maxHeartbeats 8000000 in
theorem segments_any (l : List Ob) (hu : uniq l) (pv lv : Value) (L : List Ln) (hL : ∀ x ∈ L, okPr x.1 ∧ isNode l x.1.1 = true ∧ isNode l x.1.2 = true) (hll : L.length ≤ 1000) (w : World) (h : PcS w l pv) (hv : LnS w lv L) :
    Calls Tryz.prog 35 #[pv, lv] w fun e w' => ∃ rv, e = .returned rv ∧ SgS w' rv (L.map (fun x => segO l x.1)) ∧ Below w.heap.size w w' := by
  obtain ⟨i0, hi0, hz0, hz1, hz2⟩ := info_parts3 info_seg
  have HI0 := hide hi0
  have HZ0 := hide hz0
  have HZ1 := hide hz1
  have HZ2 := hide hz2
  clear hi0 hz0 hz1 hz2
  have HLL := hide hL
  obtain ⟨v, bm, ml, rfl, hi, hms, hf⟩ := h
  obtain ⟨A, c, rfl, hA⟩ := hv
  have HA := hide hA
  obtain ⟨w1, hw1⟩ : ∃ w1, w.alloc (.cells #[v, .map (some bm)] 81) = w1 := ⟨_, rfl⟩
  have hb1 : Below w.heap.size w w1 := by rw [← hw1]; exact (Below.refl _ _).alloc (Nat.le_refl _) _
  have hbp : w1.heap[w.heap.size]? = some (.cells #[v, .map (some bm)] 81 (0, 0)) := by rw [← hw1]; exact heap_alloc_new w _
  have HPT := hide (fun W (hb : Below w1.heap.size w1 W) s (hs : s.size ≤ 100000) (hn : isNode l s = true) => point_any l hu (.agg #[v, .map (some bm)]) s hs hn W ⟨v, bm, ml, rfl, hi.below (bto hb1 hb), hms.kept (bgrow (bto hb1 hb)) (by simp), hf⟩)
  have HB1 := hide hb1
  have HBP := hide hbp
  clear hi hms hf hu hA hL
  obtain ⟨b0, hb0⟩ : ∃ b0, w.heap.size = b0 := ⟨_, rfl⟩
  rw [hb0] at HBP
  go_enter Tryz.func35, Tryz.ntmps35
  go_wp2_with fail
  go_loopw [5, 10] (fun vo i wr => ∃ (k : Nat) (Ao : Option Addr) (co : Nat), k ≤ L.length ∧ i = .int .i64 k ∧ vo = .slice Ao k co ∧ Hid (wr.ownsRow w1.heap.size 68 4 (.slice Ao k co) k (((L.take k).map (fun x => segO l x.1)).flatMap encS)) ∧ Hid (Below w1.heap.size w1 wr)) (fun _ i _ => L.length - (intOf i).toNat)
  case atStart => exact ⟨0, none, 0, Nat.zero_le _, rfl, rfl, World.ownsRow_nil _ _ _ _, Below.refl _ _⟩
  case round =>
    obtain ⟨k, Ao, co, hk, rfl, rfl, hro, hbw⟩ := hrel
    by_cases hlt : k < L.length
    · obtain ⟨g, o, rfl, hg, hp⟩ := HA.out.resolve_left (by rintro rfl; simp at hlt)
      obtain ⟨ov, d0, d1, d2, hov⟩ := (hp.below hg (bto HB1.out hbw.out)) k _ (List.getElem?_eq_getElem hlt)
      obtain ⟨Av, cv, rfl, _⟩ := hov
      have hLx := HLL.out _ (List.getElem_mem hlt)
      have HTK : Hid (((L.take (k + 1)).map (fun x => segO l x.1)).flatMap encS = ((L.take k).map (fun x => segO l x.1)).flatMap encS ++ encS (segO l L[k].1)) := hide (by
        rw [List.take_add_one, List.getElem?_eq_getElem hlt, List.map_append, List.flatMap_append]; simp)
      generalize L[k] = x at *
      obtain ⟨⟨pa, pb⟩, ids⟩ := x
      simp only at d0 d1 d2 hLx HTK
      have k0 : (0 : Int) ≤ k := by omega
      have k1 : (k : Int) < L.length := by omega
      have HL := hide hlt
      have HMS := hide (show L.length - (k + 1) < L.length - k from by omega)
      have HX := hide (fun W (hb : Below w1.heap.size w1 W) => HPT.out W hb pa hLx.1.1 hLx.2.1)
      have HY := hide (fun W (hb : Below w1.heap.size w1 W) => HPT.out W hb pb hLx.1.2 hLx.2.2)
      have hba : Below wr.heap.size wr (wr.alloc (.cells #[.string pa, .string pb, .slice Av ids.length cv] 91)) := (Below.refl _ _).alloc (Nat.le_refl _) _
      have HK : Hid (SgK w1 b0 wr.heap.size bm v (.slice Av ids.length cv) (pa, pb) (wr.alloc (.cells #[.string pa, .string pb, .slice Av ids.length cv] 91))) := hide ⟨bto hbw.out hba, blkB hba (blkB hbw.out HBP.out), heap_alloc_new _ _⟩
      have HO := hide (own_below hro.out hba)
      clear hro hbw hlt hp hba hLx
      go_upto_region 5 with (fail)
      clear d0 d1 d2
      obtain ⟨lb, hlb⟩ : ∃ lb, wr.heap.size = lb := ⟨_, rfl⟩
      rw [hlb] at HK ⊢
      clear hlb
      generalize wr.alloc _ = wd at *
      have HKD := hide (HK.out.step (below_drew wd))
      have HBD : Below wd.heap.size wd wd.drew := below_drew wd
      obtain ⟨⟨x1, y1⟩, hpa⟩ : ∃ q, ptO l pa = q := ⟨_, rfl⟩
      obtain ⟨⟨x2, y2⟩, hpb⟩ : ∃ q, ptO l pb = q := ⟨_, rfl⟩
      have HSE : Hid (encS (segO l (pa, pb)) = [.int .i64 x1, .int .i64 y1, .int .i64 x2, .int .i64 y2]) := hide (by unfold segO encS; simp only [hpa, hpb])
      rw [hpa] at HX
      rw [hpb] at HY
      clear hpa hpb
      simp only at HX HY
      obtain ⟨xs, hxs⟩ : ∃ xs, ((L.take k).map (fun x => segO l x.1)).flatMap encS = xs := ⟨_, rfl⟩
      rw [hxs] at HO HTK
      clear hxs
      go_region_held3 (fun w' => SgK w1 b0 lb bm v (.slice Av ids.length cv) (pa, pb) w' ∧ (w'.cell? ⟨b0, 0, none⟩ = some v ∧ w'.cell? ⟨b0, 1, none⟩ = some (.map (some bm)) ∧ w'.cell? ⟨lb, 0, none⟩ = some (.string pa) ∧ w'.cell? ⟨lb, 1, none⟩ = some (.string pb)))
        (with_reducible (first | exact ⟨HKD.out, HKD.out.cells⟩ | exact ⟨hk7, hk7.cells⟩ | exact ⟨hk8, hk8.cells⟩ | exact ⟨hk9, hk9.cells⟩ | exact ⟨SgK.step (And.left (by assumption)) ((Below.refl _ _).alloc (Nat.le_refl _) _), (SgK.step (And.left (by assumption)) ((Below.refl _ _).alloc (Nat.le_refl _) _)).cells⟩))
        (first
          | (go_at_call 32; (with_reducible refine (HX.out _ (SgK.below (And.left (by assumption)))).mono ?_); rintro _ w7 ⟨rfl, b7⟩; have hk7 := SgK.step (And.left (by assumption)) b7; have hb7 : Below wd.heap.size wd w7 := bto (by assumption) b7)
          | (go_at_call 32; (with_reducible refine (HY.out _ (SgK.below (And.left (by assumption)))).mono ?_); rintro _ w7 ⟨rfl, b8⟩; have hk8 := SgK.step (And.left (by assumption)) b8; have hb8 : Below wd.heap.size wd w7 := bto (by assumption) b8)
          | (refine step_append_lies _ (by rfl) _ _ _ (by rfl) w1.heap.size 68 i0 (.agg #[.int .i64 0, .int .i64 0, .int .i64 0, .int .i64 0]) 4 32 Tryz.underlying54 HI0.out HZ0.out HZ1.out HZ2.out rfl (by omega) (.slice Ao k co) k xs (by rfl) ((own_below HO.out hb8).alloc _) ⟨w7.heap.size, 0, none⟩ 1 1 [.int .i64 x1, .int .i64 y1, .int .i64 x2, .int .i64 y2] (by rfl) (by rfl) (World.news_of_block (cs := #[.int .i64 x1, .int .i64 y1, .int .i64 x2, .int .i64 y2]) (t := 68) (fr := (0, 0)) (heap_alloc_new w7 _)) (by simp [Value.oneCell']) (by omega) (by unfold maxLen; omega) (by omega) (by have := hk8.below.size; simp; omega) (w7.heap.size + 1) (by simp) ?_; intro gg cap w9 hown9 hgrow9 hat9 hlt9; have hk9 := SgK.grow (SgK.step hk8 ((Below.refl _ _).alloc (Nat.le_refl _) _)) ((own_below HO.out hb8).alloc _) hgrow9))
      have HO9 : Hid (w9.ownsRow w1.heap.size 68 4 (.slice (some ⟨gg, 0, none⟩) (k + 1) cap) (k + 1) (((L.take (k + 1)).map (fun x => segO l x.1)).flatMap encS)) := hide (by rw [HTK.out, HSE.out]; exact hown9)
      have HB9 := hide hk9.below
      clear hown9 hgrow9 hat9 hlt9 hk9 hk8 hb8 b8 hk7 hb7 b7
      go_wp2_with fail
      refine ⟨⟨k + 1, some ⟨gg, 0, none⟩, cap, HL.out, by go_num, rfl, HO9, HB9⟩, ?_⟩
      have := HMS.out
      simp [intOf]; omega
    · obtain rfl : k = L.length := by omega
      have k1 : ¬ (L.length : Int) < (L.length : Nat) := by omega
      have HRO := hide hro.out
      have HBW := hide (bto HB1.out hbw.out)
      clear hro hbw hlt
      go_wp2_with fail
      go_ret
      refine ⟨_, rfl, ?_, by rw [← hb0]; exact HBW.out⟩
      have h1 := HRO.out
      rw [List.take_length] at h1
      have h2 : (L.map (fun x => segO l x.1)).length = L.length := List.length_map ..
      rw [← h2] at h1 ⊢
      exact sgS_of_own h1
/-- The borders of a valid map of a small size. -/
theorem pairs_len {l : List Ob} (h : smallL l) : (pairsL l).length ≤ 240 := by
  unfold pairsL
  have key : ∀ M : List Ob, (∀ o ∈ M, o.refs.length ≤ 12) → (M.flatMap (bordO l)).length ≤ 12 * M.length := fun M => by
    induction M with
    | nil => intro _; simp
    | cons o M ih =>
      intro hM
      rw [List.flatMap_cons, List.length_append, List.length_cons]
      have h1 := ih (fun x hx => hM x (List.mem_cons_of_mem _ hx))
      have h2 : (bordO l o).length ≤ 12 := by
        unfold bordO
        split
        · rw [sidesO, List.length_map, List.length_range]
          have := hM o (List.mem_cons_self ..)
          unfold sidesN
          split
          · omega
          · split <;> omega
        · simp
      omega
  have := key l (fun o ho => (h.2 o ho).2.1)
  have := h.1
  omega
theorem borders_len {l : List Ob} (h : smallL l) : (bordersL l).length ≤ 240 := by
  have := putAll_len [] (pairsL l)
  have := pairs_len h
  unfold bordersL
  simp at *
  omega
theorem borders_small {l : List Ob} (h : smallL l) {p : Pr} (hp : p ∈ bordersL l) : p.1.size ≤ 60 ∧ p.2.size ≤ 60 := by
  rw [borders_mem, pairsL, List.mem_flatMap] at hp
  obtain ⟨o, ho, hp⟩ := hp
  obtain ⟨_, h1, h2, _⟩ := bordO_node hp
  exact ⟨(h.2 o ho).2.2 _ h1, (h.2 o ho).2.2 _ h2⟩
theorem lines_ok {l : List Ob} (h : smallL l) : ∀ x ∈ linesL l, okPr x.1 ∧ isNode l x.1.1 = true ∧ isNode l x.1.2 = true := fun x hx => by
  unfold linesL at hx
  obtain ⟨p, hp, rfl⟩ := List.mem_map.1 hx
  have h1 := borders_small h hp
  have h2 := borders_node hp
  refine ⟨⟨?_, ?_⟩, h2⟩
  · show p.1.size ≤ 100000; omega
  · show p.2.size ≤ 100000; omega
theorem lines_len (l : List Ob) : (linesL l).length = (bordersL l).length := by unfold linesL; rw [List.length_map]
theorem lines_segs (l : List Ob) : (linesL l).map (fun x => segO l x.1) = segsL l := by
  unfold linesL segsL
  rw [List.map_map]
  rfl
/-- A row of slices of texts. -/
theorem grS_of_own {W : World} {B : Nat} {v : Value} {C : List (Value × List BA)} (h : W.ownsRow B 39 1 v C.length (C.map Prod.fst)) (hs : ∀ x ∈ C, StS W x.1 x.2) : GrS W v (C.map Prod.snd) := by
  rcases h.2 with ⟨rfl, h0⟩ | ⟨g, cap, cur, rfl, hB, hb, hc, _⟩
  · exact ⟨none, 0, by rw [List.length_map, h0], by rw [List.length_map, h0]; exact Nat.le_refl _, .inl (by rw [List.length_eq_zero_iff.1 h0]; rfl)⟩
  · refine ⟨_, _, by rw [List.length_map], by rw [List.length_map]; exact hc, .inr ⟨g, 0, rfl, (Array.getElem?_eq_some_iff.1 hb).1, fun i r hi => ?_⟩⟩
    rw [List.getElem?_map] at hi
    obtain ⟨y, hy, rfl⟩ := Option.map_eq_some_iff.1 hi
    have := h.cells (g := g) rfl i y.1 (by rw [List.getElem?_map, hy]; rfl)
    have e : (⟨g, 0, none⟩ : Addr).add i = ⟨g, 0 + i, none⟩ := by simp only [Addr.add, Nat.zero_add]; split <;> simp_all
    rw [e] at this
    exact ⟨y.1, this, hs y (List.mem_of_getElem? hy)⟩
set_option maxRecDepth 100000 in
set_option maxHeartbeats 8000000 in
theorem psegments_any (l : List Ob) (v : Value) (w : World) (hv : MapI w v l) (hm : mapB l = true) (hsm : smallL l) :
    Calls Tryz.prog 18 #[.agg #[v]] w fun e w' => ∃ sv ov, e = .returned (.tuple #[sv, ov]) ∧ SgS w' sv (segsL l) ∧ GrS w' ov ((bordersL l).map (ownersL l)) ∧ Below w.heap.size w w' := by
  obtain ⟨i0, hi0, hz0, hz1, hz2⟩ := info_parts3 info_strs
  have HI0 := hide hi0
  have HZ0 := hide hz0
  have HZ1 := hide hz1
  have HZ2 := hide hz2
  clear hi0 hz0 hz1 hz2
  obtain ⟨A0, c0, rfl, _, _⟩ := id hv.obs
  have HM := hide hm
  have HSM := hide hsm
  have HLS : Hid ((linesL l).map Prod.snd = (bordersL l).map (ownersL l)) := hide (by unfold linesL; rw [List.map_map]; rfl)
  have hn240 : (linesL l).length ≤ 240 := by rw [lines_len]; exact borders_len hsm
  have ha : Below w.heap.size w (w.alloc (.cells #[.slice A0 l.length c0] 24)) := (Below.refl _ _).alloc (Nat.le_refl _) _
  have hbx := (blk1 (heap_alloc_new w (.cells #[.slice A0 l.length c0] 24))).1
  have HOF := hide (pof_any l _ _ (hv.below ha))
  have HA := hide ha
  clear hv hm hsm ha
  go_enter Tryz.func18, Tryz.ntmps18
  go_wp2_with fail
  refine HOF.out.mono ?_
  rintro _ w2 ⟨hb2, hor⟩
  obtain ⟨pv, rfl, hpc⟩ : ∃ pv, _ = Ending.returned (.tuple #[pv, .bool true]) ∧ PcS w2 l pv := by
    rcases hor with ⟨h, _⟩ | ⟨_, h⟩
    · rw [HM.out] at h; cases h
    · exact h
  obtain ⟨v2, bm, ml, rfl, hp1, hp2, hp3⟩ := hpc
  obtain ⟨A2, c2, rfl, _, _⟩ := id hp1.obs
  have hb3 : Below w2.heap.size w2 (w2.alloc (.cells #[.slice A2 l.length c2, .map (some bm)] 81)) := (Below.refl _ _).alloc (Nat.le_refl _) _
  have hpb := heap_alloc_new w2 (.cells #[.slice A2 l.length c2, .map (some bm)] 81)
  have HPC := hide (fun W (hb : Below w2.heap.size w2 W) => (⟨.slice A2 l.length c2, bm, ml, rfl, hp1.below hb, hp2.kept (bgrow hb) (by simp), hp3⟩ : PcS W l (.agg #[.slice A2 l.length c2, .map (some bm)])))
  have HLN := hide (lines_any l HM.out HSM.out _ _ (HPC.out _ hb3))
  have HB3 := hide (bto (bto HA.out hb2) hb3)
  have HB23 := hide hb3
  have HPB := hide hpb
  obtain ⟨x0, x1⟩ := (blk2 hpb).1
  clear hp1 hp2 hp3 hb3 hpb hb2 hor HOF hbx
  go_wp2_with fail
  refine HLN.out.mono ?_
  rintro _ w4 ⟨lv, rfl, hls, hb4⟩
  have HLV := hide hls
  obtain ⟨A, c, rfl, hA⟩ := hls
  have HAA := hide hA
  have HB4 := hide (bto HB3.out hb4)
  have HB24 := hide (bto HB23.out hb4)
  have HPB4 := hide (blkB hb4 HPB.out)
  clear hA hb4 HB3 HB23 HPB HLN x0 x1
  obtain ⟨n, hn⟩ : ∃ n, (linesL l).length = n := ⟨_, rfl⟩
  obtain ⟨b2, hb2⟩ : ∃ b2, w2.heap.size = b2 := ⟨_, rfl⟩
  rw [hn] at hn240 HLV ⊢
  rw [hb2] at HPB4
  have HN := hide hn
  clear hn
  go_wp2_with fail
  go_loopw [7, 21] (fun vo i wr => ∃ (C : List (Value × List BA)) (Ao : Option Addr) (co : Nat), C.length ≤ n ∧ i = .int .i64 C.length ∧ vo = .slice Ao C.length co ∧ Hid (C.map Prod.snd = ((linesL l).map Prod.snd).take C.length) ∧ Hid (∀ x ∈ C, StS w4 x.1 x.2) ∧ Hid (wr.ownsRow w4.heap.size 39 1 (.slice Ao C.length co) C.length (C.map Prod.fst)) ∧ Hid (Below w4.heap.size w4 wr)) (fun _ i _ => n - (intOf i).toNat)
  case atStart => exact ⟨[], none, 0, Nat.zero_le _, rfl, rfl, rfl, fun x hx => (by cases hx), World.ownsRow_nil _ _ _ _, Below.refl _ _⟩
  case round =>
    obtain ⟨C, Ao, co, hk, rfl, rfl, hcs, hst, hro, hbw⟩ := hrel
    obtain ⟨k, hkk⟩ : ∃ k, C.length = k := ⟨_, rfl⟩
    by_cases hlt : C.length < n
    · have hlt2 : C.length < (linesL l).length := by rw [HN.out]; exact hlt
      obtain ⟨g, o, rfl, hg, hp⟩ := HAA.out.resolve_left (by intro e; rw [e] at hlt2; simp at hlt2)
      obtain ⟨ov, d0, d1, d2, hov⟩ := hp _ _ (List.getElem?_eq_getElem hlt2)
      have HCS9 : Hid ((C ++ [(ov, (linesL l)[C.length].2)]).map Prod.snd = ((linesL l).map Prod.snd).take (C.length + 1)) := hide (by
        rw [List.map_append, hcs.out, List.take_add_one, List.getElem?_map, List.getElem?_eq_getElem hlt2]
        rfl)
      have HST9 : Hid (∀ x ∈ C ++ [(ov, (linesL l)[C.length].2)], StS w4 x.1 x.2) := hide (fun x hx => by
        rcases List.mem_append.1 hx with hx | hx
        · exact hst.out x hx
        · simp at hx
          rw [hx]
          exact hov)
      generalize (linesL l)[C.length] = x at *
      obtain ⟨⟨pa, pb⟩, ids⟩ := x
      obtain ⟨Av, cv, rfl, _⟩ := hov
      simp only at d0 d1 d2 HCS9 HST9
      replace d0 := (hbw.out.cell (p := ⟨g, _, none⟩) hg).trans d0
      replace d1 := (hbw.out.cell (p := ⟨g, _, none⟩) hg).trans d1
      replace d2 := (hbw.out.cell (p := ⟨g, _, none⟩) hg).trans d2
      have hba : Below wr.heap.size wr (wr.alloc (.cells #[.string pa, .string pb, .slice Av ids.length cv] 91)) := (Below.refl _ _).alloc (Nat.le_refl _) _
      have hnb := heap_alloc_new wr (.cells #[.string pa, .string pb, .slice Av ids.length cv] 91)
      obtain ⟨wd, hwd⟩ : ∃ wd, wr.alloc (.cells #[.string pa, .string pb, .slice Av ids.length cv] 91) = wd := ⟨_, rfl⟩
      rw [hwd] at hba hnb
      have e2 : wd.cell? ⟨wr.heap.size, 2, none⟩ = some (.slice Av ids.length cv) := cell_of_row wd _ 2 _ _ _ hnb
      have hbb : Below wd.heap.size wd (wd.alloc (.cells #[.slice Av ids.length cv] 39)) := (Below.refl _ _).alloc (Nat.le_refl _) _
      have HRO := hide (own_below hro.out (bto hba hbb))
      have HBW := hide (bto hbw.out (bto hba hbb))
      have HL := hide hlt
      have HMS := hide (show n - (C.length + 1) < n - C.length from by omega)
      have hc240 : C.length ≤ 240 := by omega
      have k0 : (0 : Int) ≤ (C.length : Nat) := by omega
      have k1 : ((C.length : Nat) : Int) < (n : Nat) := by omega
      clear hcs hst hro hbw hlt hlt2 hp hba hnb hbb hkk hk
      go_wp2_with (at_builtin; go_must (refine wpList_append_lies _ rfl (.tmp 25) (.tmp 28) 40 rfl w4.heap.size 39 i0 (.slice none 0 0) 1 24 Tryz.underlying40 HI0.out HZ0.out HZ1.out HZ2.out rfl (by decide) (.slice Ao C.length co) C.length (C.map Prod.fst) rfl ?c0 ⟨wd.heap.size, 0, none⟩ 1 1 [.slice Av ids.length cv] rfl rfl ?c1 ?c2 (by decide) ?c3 ?c4 ?c5 (wd.heap.size + 1) ?c6 ?_))
      case c0 => exact HRO.out
      case c2 => rfl
      case c3 => unfold maxLen; omega
      case c4 => omega
      case c5 => simpa using HBW.out.size
      intro g9 cap w9 hown9 hgrow9 hat9 _
      have HLE9 := hide (show Value.slice (some ⟨g9, 0, none⟩) (C.length + 1) cap = .slice (some ⟨g9, 0, none⟩) (C ++ [((.slice Av ids.length cv : Value), ids)]).length cap by simp)
      have HRO9 : Hid (w9.ownsRow w4.heap.size 39 1 (.slice (some ⟨g9, 0, none⟩) (C ++ [((.slice Av ids.length cv : Value), ids)]).length cap) (C ++ [((.slice Av ids.length cv : Value), ids)]).length ((C ++ [((.slice Av ids.length cv : Value), ids)]).map Prod.fst)) := by
        rw [← HLE9.out, List.length_append, List.map_append]
        exact hide hown9
      have HBW9 := hide (below_row HBW.out hgrow9 (fun r hr => (own_base HRO.out hr).1))
      have HLN9 : Hid ((C ++ [((.slice Av ids.length cv : Value), ids)]).length = C.length + 1) := hide (by simp)
      clear hown9 hgrow9 hat9 HRO HBW hwd e2 d0 d1 d2
      go_wp2_with fail
      refine ⟨⟨C ++ [((.slice Av ids.length cv : Value), ids)], some ⟨g9, 0, none⟩, cap, by rw [HLN9.out]; exact HL.out, by rw [HLN9.out]; go_num, HLE9.out, by rw [HLN9.out]; exact HCS9, HST9, HRO9, HBW9⟩, ?_⟩
      have := HMS.out
      simp [intOf]; omega
    · have hCn : C.length = n := by omega
      have HGR : Hid (GrS wr (.slice Ao C.length co) ((bordersL l).map (ownersL l))) := hide (by
        have h1 := grS_of_own hro.out (fun x hx => (hst.out x hx).below hbw.out)
        rw [hcs.out, hCn, ← HN.out, List.take_of_length_le (by rw [List.length_map]; exact Nat.le_refl _), HLS.out] at h1
        rw [hCn, ← HN.out]
        exact h1)
      have HSG := hide (segments_any l (mapB_uniq HM.out) _ _ (linesL l) (lines_ok HSM.out) (by rw [HN.out]; omega) wr (HPC.out wr (bto HB24.out hbw.out)) (HLV.out.below hbw.out))
      have HBR := hide (bto HB4.out hbw.out)
      obtain ⟨x0, x1⟩ := (blk2 (blkB hbw.out HPB4.out)).1
      have k1 : ¬ (C.length : Int) < (n : Nat) := by omega
      clear hro hbw hst hcs hlt hCn hk hkk
      go_wp2_with fail
      refine HSG.out.mono ?_
      rintro _ w6 ⟨sv, rfl, hsv, hb6⟩
      have HSV := hide hsv
      have HOV := hide (HGR.out.below hb6)
      have HB6 := hide (bto HBR.out hb6)
      clear hsv hb6 HSG x0 x1
      go_wp2_with fail
      go_ret2
      exact ⟨_, _, rfl, by rw [← lines_segs]; exact HSV.out, HOV.out, HB6.out⟩
end Go.Proofs.YtfkgjbdeicggaaaGreat
