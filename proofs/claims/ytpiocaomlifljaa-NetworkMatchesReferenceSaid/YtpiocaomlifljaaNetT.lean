/-
  network.Arcs, walked.
-/
import Derived.Test.YtpiocaomlifljaaNetS
namespace Go.Proofs.Ytpiocaomlifljaa
open Go.RowKit Go.Proofs.PlLex Go.Proofs.PlNet Go.Proofs.PlMap Go.Proofs.PlGeom
attribute [local go_sem] Oper.semAt_some run_makeMap

theorem zero_bool2 (w : World) : (zeroValue 4).run Try.prog w = .ok (.bool false) w := by kernel_rfl
theorem own_weaken {W : World} {B B' size n : Nat} {e : TypeId} {v : Value} {xs : List Value} (h : W.ownsRow B e size v n xs) (hb : B' ≤ B) : W.ownsRow B' e size v n xs := by
  refine ⟨h.1, ?_⟩
  rcases h.2 with h | ⟨g, cap, cur, h1, h2, h3⟩
  · exact .inl h
  · exact .inr ⟨g, cap, cur, h1, Nat.le_trans hb h2, h3⟩
theorem one_ar (a : Ar) : ∀ u ∈ arCells a, u.oneCell' = true := by intro u hu; simp [arCells] at hu; rcases hu with rfl | rfl | rfl | rfl <;> rfl
theorem Kr.turned {S B bm : Nat} {W W' : World} (h : W.mapTurned W' bm) (h1 : S ≤ bm) (h2 : bm ≠ B) : Kr S B W W' := by
  obtain ⟨es, clock, es', clock', hb, rfl⟩ := id h
  have hg := h.grown
  refine ⟨hg.size, fun b o ho hbb => (hg.block b (lt_of_block ho) (fun e => ?_)).trans ho⟩
  cases e
  rcases hbb with h | h | ⟨cs, rfl⟩
  · omega
  · exact h2 h
  · rw [hb] at ho; cases ho
theorem Kr.grownArc {S B n₀ size : Nat} {W w1 : World} {v : Value} {k : Nat} {xs : List Value} (hS : S ≤ n₀) (hB : B < n₀) (hrow : W.ownsRow n₀ 49 size v k xs) (hg : W.grownBy w1 v.ownBlock) : Kr S B W w1 := by
  refine ⟨hg.size, fun b o ho hbb => (hg.block b (lt_of_block ho) (fun e => ?_)).trans ho⟩
  obtain ⟨h1, cur, hc⟩ := own_block hrow e.symm
  rcases hbb with h | h | ⟨cs, rfl⟩
  · omega
  · omega
  · rw [hc] at ho; simp at ho
theorem Kr.set {S B b i : Nat} {W : World} (v : Value) (h1 : S ≤ b) (h2 : b ≠ B) {cs : Array Value} {t : TypeId} (hc : W.heap[b]? = some (.cells cs t (0, 0))) (ht : t ≠ 42) : Kr S B W (W.setCell ⟨b, i, none⟩ v) := by
  refine ⟨by simp, fun b' o ho hbb => (Below.heap_setCell W ⟨b, i, none⟩ v b' (fun e => ?_)).trans ho⟩
  have e : b' = b := e
  subst e
  rcases hbb with h | h | ⟨cs, rfl⟩
  · omega
  · exact h2 h
  · rw [hc] at ho
    cases ho
    exact ht rfl
theorem blk_grown {W w1 : World} {n₀ size k b : Nat} {e t : TypeId} {v : Value} {xs : List Value} {cs : Array Value} (hrow : W.ownsRow n₀ e size v k xs) (hg : W.grownBy w1 v.ownBlock) (hb : W.heap[b]? = some (.cells cs t (0, 0))) (ht : t ≠ e) : w1.heap[b]? = some (.cells cs t (0, 0)) :=
  (hg.block b (lt_of_block hb) (fun e' => by
    obtain ⟨_, cur, hc⟩ := own_block hrow e'.symm
    rw [hc] at hb
    cases hb
    exact ht rfl)).trans hb
theorem blk_row {X Y : World} {row : Option Nat} {B N : Nat} {cs : Array Value} {t : TypeId} {f : Nat × Nat} (h : X.heap[B]? = some (.cells cs t f)) (hg : X.grownBy Y row) (hr : ∀ r, row = some r → N ≤ r ∧ ∃ o : Obj, X.heap[r]? = some o ∧ o.isCells = false) : Y.heap[B]? = some (.cells cs t f) :=
  (hg.block B (Array.getElem?_eq_some_iff.1 h).1 (fun e => by
    obtain ⟨_, o, ho, hc⟩ := hr B e.symm
    rw [h] at ho
    cases ho
    cases hc)).trans h
set_option maxRecDepth 100000 in
set_option maxHeartbeats 8000000 in
theorem arcs_any (l : List Ob) (v : Value) (w : World) (hv : MapI w v l) :
    Calls Try.prog 16 #[.agg #[v]] w fun e w' => ∃ rv, e = .returned rv ∧ ArS w' rv (if mapB l then arcsL l else []) ∧ Below w.heap.size w w' := by
  have HOF := hide (fun w' (hb : Below w.heap.size w w') => of_any l v w' (hv.below hb).obs hv.len hv.ok)
  have HV := hide hv
  have hl := hv.len
  obtain ⟨A, c, rfl, _, hA⟩ := hv.obs
  have HA := hide hA
  obtain ⟨wa, hwa⟩ : ∃ wa, w.alloc (.cells #[.slice A l.length c] 24) = wa := ⟨_, rfl⟩
  have ha : Below w.heap.size w wa := by rw [← hwa]; exact (Below.refl _ _).alloc (Nat.le_refl _) _
  have hm : wa.heap[w.heap.size]? = some (.cells #[.slice A l.length c] 24 (0, 0)) := by rw [← hwa]; exact heap_alloc_new w _
  have dm := (blk1 hm).1
  have HOF2 := hide (HOF.out wa ha)
  have HWA := hide ha
  clear hA hv HOF
  cases hmb : mapB l with
  | false =>
    rw [hmb] at HOF2
    clear hmb
    go_enter Try.func16, Try.ntmps16
    go_wp2_with fail
    refine HOF2.out.mono ?_
    rintro _ w1 (⟨_, rfl, hb⟩ | ⟨h, _⟩)
    · have HB := hide (bto ha hb)
      clear hwa ha hm dm hb
      go_wp2_with fail
      go_ret
      exact ⟨_, rfl, ⟨none, 0, rfl, .inl rfl⟩, HB.out⟩
    · cases h
  | true =>
    rw [hmb] at HOF2
    have HMB := hide hmb
    clear hmb
    refine (callsIn_wide (n := 10)).1 ?_
    refine callsIn_of_wp_marks Try.func16 rfl trivial ?_ rfl
    simp only [Try.ntmps16, List.size_toArray, List.length_cons, List.length_nil, Nat.reduceAdd, Nat.reduceSub, Array.replicate_succ, Array.replicate_zero, List.push_toArray, List.append_toArray, List.nil_append, List.cons_append]
    have hf : Fence.wide.fn 33 := trivial
    have hf2 : Fence.wide.fn 40 := trivial
    gi_wp2
    gi_at_call 33
    refine (callsIn_wide.2 HOF2.out).mono ?_
    rintro _ w1 (⟨h, _⟩ | ⟨_, s, nl, wl, rfl, hnr⟩)
    · cases h
    have HN := hide hnr
    clear hwa hm dm ha HOF2 hnr
    gi_wp2_with (gi_at_call 40; refine (callsIn_wide.2 (arcsf_any _ _)).mono ?_; rintro e w2 ⟨rfl, rfl⟩)
    obtain ⟨W0, hW0⟩ : ∃ W0, ((((w1.alloc (.cells #[.slice none 0 0] 31)).alloc (.map #[] 0)).alloc (.cells #[.map (some (w1.heap.size + 1))] 70)).alloc (.cells #[.pointer (some ⟨s + 2, 0, none⟩)] 61)) = W0 := ⟨_, rfl⟩
    have hsz : W0.heap.size = w1.heap.size + 4 := by rw [← hW0]; simp
    have hq : Below w1.heap.size w1 W0 := by rw [← hW0]; exact ((((Below.refl _ _).alloc (Nat.le_refl _) _).alloc (by simp) _).alloc (by simp; omega) _).alloc (by simp; omega) _
    have hb0 : Below w.heap.size w W0 := bto (bto HWA.out HN.out.below) hq
    have bx : Boxed W0 w1.heap.size 31 (.slice none 0 0) := by rw [← hW0]; exact (((Boxed.new w1 _ _).alloc _).alloc _).alloc _
    have bs : Boxed W0 (w1.heap.size + 1 + 1) 70 (.map (some (w1.heap.size + 1))) := by
      rw [← hW0]
      have := (Boxed.new ((w1.alloc (.cells #[.slice none 0 0] 31)).alloc (.map #[] 0)) 70 (.map (some (w1.heap.size + 1)))).alloc (.cells #[.pointer (some ⟨s + 2, 0, none⟩)] 61)
      simpa using this
    have bm : MapA W0 (w1.heap.size + 1) [] := by
      rw [← hW0]
      have := ((mapL_made (arcKeys Try.prog 49 (Maps.Keyed.of_law arc_law) arc_key) (w1.alloc (.cells #[.slice none 0 0] 31))).alloc (.cells #[.map (some (w1.heap.size + 1))] 70)).alloc (.cells #[.pointer (some ⟨s + 2, 0, none⟩)] 61)
      simpa using this
    have bp : W0.heap[w1.heap.size + 1 + 1 + 1]? = some (.cells #[.pointer (some ⟨s + 2, 0, none⟩)] 61 (0, 0)) := by
      rw [← hW0]
      have := heap_alloc_new (((w1.alloc (.cells #[.slice none 0 0] 31)).alloc (.map #[] 0)).alloc (.cells #[.map (some (w1.heap.size + 1))] 70)) (.cells #[.pointer (some ⟨s + 2, 0, none⟩)] 61)
      simpa using this
    have hari : ArI wa (.slice A l.length c) (s + 2) s (s + 1) (w1.heap.size + 1 + 1 + 1) nl wl W0 :=
      ⟨blkB hq HN.out.nb, HN.out.nodes.kept (grown_none hq) (by simp), HN.out.ways.kept (grown_none hq) (by simp), bp, fun b hb => (bto HN.out.below hq).block b hb⟩
    have hlt : wa.heap.size ≤ w1.heap.size := HN.out.below.size
    have hS : wa.heap.size ≤ w1.heap.size ∧ s + 2 < w1.heap.size ∧ s < w1.heap.size ∧ s + 1 < w1.heap.size := ⟨hlt, lt_of_block HN.out.nb, HN.out.nodes.lt, HN.out.ways.lt⟩
    have hP : ArP wa A c l nl wl := ⟨hl, HV.out.ok, HMB.out, HN.out.nr, HN.out.wr, by
      rcases HA.out with h | ⟨g, o, hA, hg, hp⟩
      · exact .inl h
      · exact .inr ⟨g, o, hA, Nat.lt_of_lt_of_le hg HWA.out.size, hp.below hg HWA.out⟩⟩
    have hNl : (allArcs l).length ≤ 20000000000 := Nat.le_trans (allArcs_len l l HV.out.ok) (by omega)
    have hw0 : w.heap.size ≤ w1.heap.size := Nat.le_trans HWA.out.size hlt
    obtain ⟨i0, hi, hz0, hz1, hz2⟩ := info_parts info_arc
    have HI := hide hi; have HZ0 := hide hz0; have HZ1 := hide hz1; have HZ2 := hide hz2
    rw [hW0]
    clear hW0 hq bp hi hz0 hz1 hz2 hf hf2
    refine wpIn_rangeFunc_ownH rfl (by omega) (gf := 61) (lb := #[.pointer (some ⟨w1.heap.size + 1 + 1 + 1, 0, none⟩)]) rfl trivial (enters_of Try.func61 (by kernel_rfl) rfl)
      (arcs_stops 9 (by omega) wa A c l (s + 2) s (s + 1) (w1.heap.size + 1 + 1 + 1) w1.heap.size nl wl hP hS W0 hari (by omega)) Kr.trans (fun W l o o' hBl h1 h2 _ => Kr.putObj W l o o' (by omega) (by omega) h1 h2) (Below.refl _ _) (fun _ => rfl)
      (SeE w w1.heap.size (w1.heap.size + 1) W0.heap.size) (fun _ _ _ => False) (seE_own w _ _ _ _ (by omega) (by omega)) (fun _ _ _ _ _ h _ _ => h) ⟨none, 0, Nat.le_refl _, bx, World.ownsRow_nil _ _ _ _, bs, ⟨[], bm, (fun _ => rfl), Nat.le_refl _⟩, hb0⟩
      (fun x a' W => ∃ Bx, W0.heap.size ≤ Bx ∧ W.heap[Bx]? = some (.cells #[.string x.a.f, .string x.a.t, .string x.a.w, .int .i64 x.a.n] 49 (0, 0)) ∧ a' = { tmps := #[.agg #[.slice A l.length c], .pointer (some ⟨w.heap.size, 0, none⟩), .slice none 0 0, .pointer (some ⟨s + 2, 0, none⟩), .bool true, .pointer (some ⟨w1.heap.size, 0, none⟩), .pointer (some ⟨w1.heap.size + 1 + 1, 0, none⟩), .pointer (some ⟨Bx, 0, none⟩), .tuple #[.pointer (some ⟨s + 2, 0, none⟩), .bool true], .agg #[.slice A l.length c], .tuple #[.pointer (some ⟨s + 2, 0, none⟩), .bool true], .pointer (some ⟨s + 2, 0, none⟩), .bool true, .bool true, .bool false, .map (some (w1.heap.size + 1)), .pointer (some ⟨s + 2, 0, none⟩), .func (.func 61) #[] #[.pointer (some ⟨w1.heap.size + 1 + 1 + 1, 0, none⟩)], arV x.a, undef, undef, undef, undef, undef, undef, undef, undef, undef, undef, undef], defers := [] })
      (fun x a' _ X Y row hs hg hr => by
        obtain ⟨Bx, e1, e2, e3⟩ := hs
        exact ⟨Bx, e1, blk_row e2 hg hr, e3⟩)
      ?assign ?body ?done ?stop
    case assign =>
      rintro l' pre x W K ⟨A1, c1, h⟩ hK
      unfold encA arV
      gi_wp2
      obtain ⟨ml, hml, hml2⟩ := h.ml
      exact hK _ _ ((KeepsOthers.alloc _ _).from _) (Kr.below ((Below.refl _ _).alloc (Nat.le_refl _) _)) ⟨A1, c1, by have := h.size; simp; omega, h.box.alloc _, h.row.alloc _, h.sb.alloc _, ⟨ml, hml.alloc _, hml2⟩, h.below.alloc h.below.size _⟩
        ⟨W.heap.size, h.size, heap_alloc_new W _, rfl⟩
    case body =>
      rintro l' pre x a' W hl' ⟨rr, hr⟩ ⟨A1, c1, h⟩ ⟨Bx, hBx, bX, rfl⟩ hlt
      have hlen1 : (onceA [] (pre.map Av.a)).length ≤ 20000000000 := by
        have := onceA_len [] (pre.map Av.a)
        simp only [List.length_nil, List.length_map] at this
        omega
      have s0 : W.cell? ⟨w1.heap.size + 1 + 1, 0, none⟩ = some (.map (some (w1.heap.size + 1))) := h.sb.cell
      have x0 : W.cell? ⟨Bx, 0, none⟩ = some (.string x.a.f) := cell_of_row W _ 0 _ _ _ bX
      have x1 : W.cell? ⟨Bx, 1, none⟩ = some (.string x.a.t) := cell_of_row W _ 1 _ _ _ bX
      have x2 : W.cell? ⟨Bx, 2, none⟩ = some (.string x.a.w) := cell_of_row W _ 2 _ _ _ bX
      have x3 : W.cell? ⟨Bx, 3, none⟩ = some (.int .i64 x.a.n) := cell_of_row W _ 3 _ _ _ bX
      obtain ⟨ml, hml, hml2, hml3⟩ := h.ml
      have hlook := hml.look Try.underlying70 zero_bool2 (x := x.a) x.ok
      have hsn := onceA_snoc [] (pre.map Av.a) x.a
      by_cases hmem : x.a ∈ onceA [] (pre.map Av.a)
      · rw [if_pos hmem] at hsn
        rw [hml2, if_pos hmem] at hlook
        change (Instr.lookup 70 (.map (some (w1.heap.size + 1))) (.agg #[.string x.a.f, .string x.a.t, .string x.a.w, .int .i64 x.a.n]) false).run _ _ = .ok (.bool true) _ at hlook
        have HS : Hid (SeE w w1.heap.size (w1.heap.size + 1) W0.heap.size (pre ++ [x]) W) := by
          obtain ⟨e1, e2, e3, e4, e5, e6⟩ := h
          have e : (pre ++ [x]).map Av.a = pre.map Av.a ++ [x.a] := by simp
          rw [← hsn, ← e] at e2 e3
          exact ⟨A1, c1, e1, e2, e3, e4, ⟨ml, hml, fun z => by rw [e, hsn]; exact hml2 z, by simp; omega⟩, e6⟩
        clear h hml hml2 hml3 hsn hmem
        gi_wp2
        exact ⟨(KeepsOthers.refl _).from _, Kr.below (Below.refl _ _), HS.out⟩
      · rw [if_neg hmem] at hsn
        rw [hml2, if_neg hmem] at hlook
        change (Instr.lookup 70 (.map (some (w1.heap.size + 1))) (.agg #[.string x.a.f, .string x.a.t, .string x.a.w, .int .i64 x.a.n]) false).run _ _ = .ok (.bool false) _ at hlook
        obtain ⟨W2, hst, hml9, htu⟩ := hml.store Try.underlying70 (by unfold maxLen; omega) (x := x.a) x.ok (.bool true)
        change (Instr.mapUpdate 70 (.map (some (w1.heap.size + 1))) (.agg #[.string x.a.f, .string x.a.t, .string x.a.w, .int .i64 x.a.n]) (.bool true)).run _ _ = _ at hst
        have hbX2 := turned_blk htu bX (by omega)
        have hbox2 : Boxed W2 w1.heap.size 31 (.slice A1 (onceA [] (pre.map Av.a)).length c1) := turned_blk htu h.box (by omega)
        have hsb2 : Boxed W2 (w1.heap.size + 1 + 1) 70 (.map (some (w1.heap.size + 1))) := turned_blk htu h.sb (by omega)
        have hrow2 := own_kept h.row htu.grown (fun b hb e => by have := (own_block h.row hb).1; cases e; omega)
        have hb2 := belowK_map h.below (by omega) htu
        have hsz2 := htu.grown.size
        have z0 : W2.cell? ⟨Bx, 0, none⟩ = some (.string x.a.f) := cell_of_row W2 _ 0 _ _ _ hbX2
        have z1 : W2.cell? ⟨Bx, 1, none⟩ = some (.string x.a.t) := cell_of_row W2 _ 1 _ _ _ hbX2
        have z2 : W2.cell? ⟨Bx, 2, none⟩ = some (.string x.a.w) := cell_of_row W2 _ 2 _ _ _ hbX2
        have z3 : W2.cell? ⟨Bx, 3, none⟩ = some (.int .i64 x.a.n) := cell_of_row W2 _ 3 _ _ _ hbX2
        have z4 : W2.cell? ⟨w1.heap.size, 0, none⟩ = _ := hbox2.cell
        have z5 : W2.frozen? ⟨w1.heap.size, 0, none⟩ = false := hbox2.frozen
        have hhs := h.size
        have HH := hide (And.intro hbox2 (And.intro hrow2 (And.intro hsb2 (And.intro hb2 (And.intro hml9 htu)))))
        have HSN := hide hsn
        have HML2 := hide hml2
        have HML3 := hide hml3
        have hm1 : (onceA [] (pre.map Av.a)).length + 1 ≤ maxLen := by unfold maxLen; omega
        have hm2 : ((onceA [] (pre.map Av.a)).length + 1) * 56 ≤ 140737488355328 := by omega
        have hrow3 := hrow2.alloc (.cells #[.string x.a.f, .string x.a.t, .string x.a.w, .int .i64 x.a.n] 49)
        have HR := hide hrow3
        have HNW := hide (new_cells W2 (arCells x.a) 49)
        have HNM := hide hmem
        clear hml hml2 hml3 hml9 htu hrow2 hrow3 hb2 hbX2 h hsn hmem hsb2 hbox2
        generalize onceA [] (pre.map Av.a) = LL at *
        gi_wp2_with (gi_at_builtin; refine wpListIn_append_own _ rfl (.tmp 25) (.tmp 27) 31 rfl W0.heap.size 49 i0 (.agg #[.string ⟨#[]⟩, .string ⟨#[]⟩, .string ⟨#[]⟩, .int .i64 0]) 4 56 Try.underlying31 HI.out HZ0.out HZ1.out HZ2.out rfl (by decide) (.slice A1 LL.length c1) LL.length (cellsA LL) rfl HR.out ⟨W2.heap.size, 0, none⟩ 1 1 (arCells x.a) rfl rfl HNW.out (one_ar _) hm1 hm2 (by simp; omega) ?_; intro v' w9 hown' hgrow _; obtain ⟨g', cap', rfl⟩ := ownsRow_succ hown'; obtain ⟨hv1, hv2, hr2, hk2, hb2⟩ := HH.out.1.appended (n₀ := w.heap.size) (B := w1.heap.size) (by decide) (own_weaken HH.out.2.1 (by omega)) HH.out.2.2.2.1.size (by omega) (own_weaken hown' (by omega)) hgrow; have hc1 : w9.cell? ⟨w1.heap.size, 0, none⟩ = _ := hv1.cell; have hf1 : w9.frozen? ⟨w1.heap.size, 0, none⟩ = false := hv1.frozen)
        obtain ⟨hbox2, _, hsb2, _, hml9, htu⟩ := HH.out
        have hsb9 := blk_grown HR.out hgrow (blkB ((Below.refl _ _).alloc (Nat.le_refl _) (.cells #[.string x.a.f, .string x.a.t, .string x.a.w, .int .i64 x.a.n] 49)) hsb2) (by decide)
        have hml10 := (hml9.alloc (.cells #[.string x.a.f, .string x.a.t, .string x.a.w, .int .i64 x.a.n] 49)).kept hgrow (fun e => by have := (own_block HR.out e.symm).1; omega)
        have e : (pre ++ [x]).map Av.a = pre.map Av.a ++ [x.a] := by simp
        refine ⟨(KeepsFrom.of_grownBy htu.grown (fun j e => by cases e; omega)).trans (hk2.from _), (Kr.turned htu (by omega) (by omega)).trans ((Kr.below ((Below.refl _ _).alloc (Nat.le_refl _) (.cells #[.string x.a.f, .string x.a.t, .string x.a.w, .int .i64 x.a.n] 49))).trans ((Kr.grownArc (by omega) (by omega) HR.out hgrow).trans (Kr.set _ (Nat.le_refl _) (by omega) hv1 (by decide)))),
          some ⟨g', 0, none⟩, cap', ?_, ?_, ?_, blk_other hsb9 (by omega), ⟨_, hml10.setCell (by show w1.heap.size + 1 ≠ w1.heap.size; omega) _, ?_, ?_⟩, HH.out.2.2.2.1.trans hb2⟩
        · have := hgrow.size
          simp at this ⊢
          omega
        · rw [e, HSN.out, List.length_append]
          exact hv2
        · have h9 := hown'.kept (grownBy_setCell' w9 w1.heap.size (.slice (some ⟨g', 0, none⟩) (LL.length + 1) cap')) (.inr (hv1.not_row (by decide) hown').symm)
          rw [e, HSN.out, List.length_append, cellsA_app]
          exact h9
        · intro z
          rw [getL_put, e, HSN.out, HML2.out z]
          by_cases hz : z = x.a
          · simp [hz]
          · simp [hz]
        · rw [putL_len, List.length_append]
          have := HML3.out
          simp only [List.length_cons, List.length_nil]
          split <;> omega
    case done =>
      rintro D xs W hD hS ⟨A1, c1, h⟩ hK
      have c0 : W.cell? ⟨w1.heap.size, 0, none⟩ = _ := h.box.cell
      have HH := hide h
      have HK := hide hK
      have HX := hide hS
      clear h hK hS
      gi_wp2
      refine ⟨by simp, .inl ⟨_, _, rfl, run_takeDeferred HK.out, ?_⟩⟩
      refine ⟨_, results_tmp rfl _ _ _, _, rfl, ?_, HH.out.below.trans (belowK_b (w := w) (Nat.le_refl _) W D _ _ (by omega) HK.out rfl rfl)⟩
      have hx := HX.out
      show ArS _ (.slice A1 (onceA [] (xs.map Av.a)).length c1) _
      have h9 := ownsRow_putObj HH.out.row (.deferred none) HK.out rfl
      have e : arcsL l = onceA [] (xs.map Av.a) := by rw [hx]; rfl
      rw [e]
      exact ar_of_own h9
    case stop =>
      rintro D c pre W _ _ h
      exact h.elim
end Go.Proofs.Ytpiocaomlifljaa
