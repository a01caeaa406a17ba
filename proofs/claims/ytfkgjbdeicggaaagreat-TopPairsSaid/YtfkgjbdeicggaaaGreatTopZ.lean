/-
  The index, walked: the closure that walks the tree.
-/
import Derived.Test.YtfkgjbdeicggaaaGreatTopY
import Derived.Test.YtfkgjbdeicggaaaGreatTopTV
namespace Go.Proofs.YtfkgjbdeicggaaaGreat
open Go.RowKit Go.Proofs.PlLex Go.Proofs.PlNet Go.Proofs.PlMap Go.Proofs.PlGeom Go.Proofs.PlTop
attribute [local go_sem] Oper.semAt_some

/-- A block that is none of a tree's. -/
theorem NodeAt.avoid {W : World} {X : Nat → Prop} {B : Nat} {v : Value} (h1 : W.cell? ⟨B, 0, none⟩ = some v) (h2 : ∀ a, v ≠ .pointer a) (h3 : ∀ cs f, W.heap[B]? ≠ some (.cells cs 155 f)) {d g : Nat} {bx : Bx} {ls : List Lf} (h : NodeAt W X d g bx ls) : NodeAt W (fun b => X b ∨ b = B) d g bx ls := by
  induction d generalizing g bx ls with
  | zero =>
    obtain ⟨k1, k2, id, k3, k4⟩ := h
    exact ⟨fun hy => hy.elim k1 (fun e => h3 _ _ (e ▸ k4)), k2, id, k3, k4⟩
  | succ d ih =>
    obtain ⟨k1, k2, p, c, ps, k3, k4, k5, k6, k7, k8, k9⟩ := h
    refine ⟨fun hy => hy.elim k1 (fun e => h3 _ _ (e ▸ k3)), k2, p, c, ps, k3, fun hy => hy.elim k4 (fun e => ?_), k5, k6, k7, fun x hx => ih (k8 x hx), k9⟩
    cases ps with
    | nil => exact k6 rfl
    | cons x ps =>
      have := k7 0 x rfl
      rw [e, h1] at this
      exact h2 _ (Option.some.inj this)
def walkV (Bb Bo Bw : Nat) : Value := .func (Fn.func 70) #[] #[.pointer (some ⟨Bb, 0, none⟩), .pointer (some ⟨Bo, 0, none⟩), .pointer (some ⟨Bw, 0, none⟩)]
/-- The memory of the closure that walks the tree: its boxes, what it has found. -/
structure WkI (w1 : World) (q : Bx) (Bb Bo Bw : Nat) (H : List BA) (W : World) : Prop where
  gr : w1.grownBy W (some Bo)
  b : W.heap[Bb]? = some (.cells (bxC q) 65 (0, 0))
  w : W.heap[Bw]? = some (.cells #[walkV Bb Bo Bw] 151 (0, 0))
  out : ∃ ov, W.heap[Bo]? = some (.cells #[ov] 39 (0, 0)) ∧ W.ownsRow w1.heap.size 9 1 ov H.length (H.map .string)
  lt : Bb < w1.heap.size ∧ Bo < w1.heap.size ∧ Bw < w1.heap.size ∧ Bb ≠ Bo ∧ Bw ≠ Bo
theorem WkI.lift {w1 : World} {q : Bx} {Bb Bo Bw : Nat} {H : List BA} {W W' : World} (h : WkI w1 q Bb Bo Bw H W) (hb : Below W.heap.size W W') : WkI w1 q Bb Bo Bw H W' := by
  obtain ⟨ov, h1, h2⟩ := h.out
  exact ⟨gby_below h.gr hb, blkB hb h.b, blkB hb h.w, ⟨ov, blkB hb h1, own_below h2 hb⟩, h.lt⟩
theorem NodeAt.out {W : World} {X : Nat → Prop} {d g : Nat} {bx : Bx} {ls : List Lf} (h : NodeAt W X d g bx ls) : ¬ X g := by
  cases d with
  | zero => exact h.1
  | succ d => exact h.1
/-- One text more is found. -/
theorem WkI.push {w1 : World} {q : Bx} {Bb Bo Bw : Nat} {H : List BA} {W w9 : World} {id : BA} {ov : Value} {g9 cap9 : Nat} (h : WkI w1 q Bb Bo Bw H W) (hbo : W.heap[Bo]? = some (.cells #[ov] 39 (0, 0))) (ho : W.ownsRow w1.heap.size 9 1 ov H.length (H.map .string)) (hown : w9.ownsRow w1.heap.size 9 1 (.slice (some ⟨g9, 0, none⟩) (H.length + 1) cap9) (H.length + 1) (H.map .string ++ [.string id])) (hg : W.grownBy w9 ov.ownBlock) :
    WkI w1 q Bb Bo Bw (H ++ [id]) (w9.setCell ⟨Bo, 0, none⟩ (.slice (some ⟨g9, 0, none⟩) (H.length + 1) cap9)) := by
  have hs : w9.grownBy (w9.setCell ⟨Bo, 0, none⟩ (.slice (some ⟨g9, 0, none⟩) (H.length + 1) cap9)) (some Bo) := ⟨rfl, rfl, rfl, by simp, fun k _ hne => Below.heap_setCell w9 ⟨Bo, 0, none⟩ _ k (fun e => hne (by rw [e]))⟩
  have hfar : ∀ {b : Nat} {cs : Array Value} {t : TypeId} {f : Nat × Nat}, b < w1.heap.size → W.heap[b]? = some (.cells cs t f) → w9.heap[b]? = some (.cells cs t f) := fun {b cs t f} hb hh => (hg.block b (lt_of_block hh) (fun e => by have := (own_base ho e.symm).1; omega)).trans hh
  refine ⟨?_, (hs.block Bb (lt_of_block (hfar h.lt.1 h.b)) (fun e => h.lt.2.2.2.1 (Option.some.inj e))).trans (hfar h.lt.1 h.b), (hs.block Bw (lt_of_block (hfar h.lt.2.2.1 h.w)) (fun e => h.lt.2.2.2.2 (Option.some.inj e))).trans (hfar h.lt.2.2.1 h.w), ⟨.slice (some ⟨g9, 0, none⟩) (H.length + 1) cap9, ?_, ?_⟩, h.lt⟩
  · refine ⟨hs.os.trans (hg.os.trans h.gr.os), hs.tape.trans (hg.tape.trans h.gr.tape), hs.output.trans (hg.output.trans h.gr.output), Nat.le_trans h.gr.size (Nat.le_trans hg.size hs.size), fun i hi hne => ?_⟩
    have i1 : i < W.heap.size := Nat.lt_of_lt_of_le hi h.gr.size
    exact ((hs.block i (Nat.lt_of_lt_of_le i1 hg.size) hne).trans (hg.block i i1 (fun e => by have := (own_base ho e.symm).1; omega))).trans (h.gr.block i hi hne)
  · have h9 := hfar h.lt.2.1 hbo
    rw [Sort.setCell_eq]
    simp [Sort.mapBlock, Array.getElem?_modify, h9, Sort.onCells]
  · rw [List.length_append, List.map_append]
    refine own_kept hown hs (fun b e1 e2 => ?_)
    have := (own_base hown e1).1
    have e3 := Option.some.inj e2
    have := h.lt.2.1
    omega
theorem NodeAt.least {W : World} {X : Nat → Prop} {d g : Nat} {bx : Bx} {ls : List Lf} (h : NodeAt W X d g bx ls) : 1 ≤ ls.length := by
  induction d generalizing g bx ls with
  | zero =>
    obtain ⟨_, _, id, rfl, _⟩ := h
    exact Nat.le_refl _
  | succ d ih =>
    obtain ⟨_, _, p, c, ps, _, _, _, k6, _, k8, rfl, _⟩ := h
    cases ps with
    | nil => exact absurd rfl k6
    | cons x ps =>
      have := ih (k8 x (by simp))
      simp [leavesN]
      omega
theorem leaves_least {W : World} {X : Nat → Prop} {d : Nat} {L : List Nd} (h : NodesAt W X d L) : L.length ≤ (leavesN L).length := by
  induction L with
  | nil => simp
  | cons x L ih =>
    have h1 := (h x (by simp)).least
    have h2 := ih (fun y hy => h y (by simp [hy]))
    simp [leavesN] at h2 ⊢
    omega
theorem hit_len (q : Bx) (l : List Lf) : (hitL q l).length ≤ l.length := by
  unfold hitL
  rw [List.length_map]
  exact List.length_filter_le _ _
theorem leaves_next (L : List Nd) {k : Nat} (h : k < L.length) : leavesN (L.take (k + 1)) = leavesN (L.take k) ++ L[k].ls := by
  rw [List.take_add_one, List.getElem?_eq_getElem h, leavesN_app]
  simp [leavesN]
theorem leaves_bound (L : List Nd) {k : Nat} (h : k < L.length) : (leavesN (L.take k)).length + L[k].ls.length ≤ (leavesN L).length := by
  have e1 : leavesN L = leavesN (L.take (k + 1)) ++ leavesN (L.drop (k + 1)) := by rw [← leavesN_app, List.take_append_drop]
  rw [e1, leaves_next L h]
  simp
theorem hit_self (q bx : Bx) (s : BA) : hitL q [(bx, s)] = if meetX bx q = true then [s] else [] := by
  unfold hitL
  cases h : meetX bx q <;> simp [h]
set_option maxRecDepth 100000 in
set_option maxHeartbeats 8000000 in
theorem walk_any (q : Bx) (Bb Bo Bw : Nat) (w1 : World) (d : Nat) : ∀ (g : Nat) (bx : Bx) (ls : List Lf) (H : List BA) (W : World), NodeAt w1 (fun b => b = Bo) d g bx ls → WkI w1 q Bb Bo Bw H W → (H.length + ls.length ≤ 1000000) →
    Calls Tryz.prog 70 #[.pointer (some ⟨g, 0, none⟩), .pointer (some ⟨Bb, 0, none⟩), .pointer (some ⟨Bo, 0, none⟩), .pointer (some ⟨Bw, 0, none⟩)] W fun e w' => e = .returned (.tuple #[]) ∧ WkI w1 q Bb Bo Bw (H ++ hitL q ls) w' := by
  induction d with
  | zero =>
    intro g bx ls H W hn hk hl
    obtain ⟨j0, hj, hy0, hy1, hy2⟩ := info_parts3 info_string
    have HJ0 := hide hj
    have HY0 := hide hy0
    have HY1 := hide hy1
    have HY2 := hide hy2
    clear hj hy0 hy1 hy2
    obtain ⟨id, pv, hcell, hsl⟩ := hn.cells
    have hcW := (hk.gr.block g (lt_of_block hcell) (fun e => hn.out (Option.some.inj e))).trans hcell
    have hmx : Tryz.prog.follows .mixedOrders = true := by kernel_rfl
    have HMT := hide (meet_any bx q W.drew)
    have hwd := hk.lift (below_drew W)
    have hcd := blkB (below_drew W) hcW
    obtain ⟨c0, c1, c2, c3, c4, c5⟩ := box6n hcd
    obtain ⟨⟨q0, q1, q2, q3⟩, _⟩ := blk4 hwd.b
    have HK := hide hk
    have HGO := hide hn.out
    have HGL := hide (lt_of_block hcell)
    have HGC := hide hcell
    have HCW := hide hcW
    unfold bxC at HMT
    obtain ⟨M, hM⟩ : ∃ M, meetX bx q = M := ⟨_, rfl⟩
    rw [hM] at HMT
    have HM := hide hM
    clear hk hcW hcell hM hwd hcd
    go_enter Tryz.func70, Tryz.ntmps70
    go_upto_region 0 with (fail)
    go_cut [17] from 7 to 17 (fun s17 wx => s17 = .bool (!M) ∧ Hid (Below W.heap.size W wx))
    case first =>
      refine wp_region_any hmx ?_
      change wpAny _ _ _ _ _ _ _ (World.drew _)
      refine wpAny_take (i := 0) (v := .pointer (some ⟨g, 0, none⟩)) rfl (by kernel_rfl) (by kernel_rfl) (by kernel_rfl) (fun _ _ _ h => h) (.inl ⟨by kernel_rfl, fun w => rfl⟩) ?_
      refine wpAny_take (i := 1) (v := .bool false) rfl (by kernel_rfl) (by kernel_rfl) (by kernel_rfl) (fun _ _ _ h => h) (.inl ⟨by kernel_rfl, fun w => by go_simp⟩) ?_
      refine wpAny_take (i := 2) (v := .bool false) rfl (by kernel_rfl) (by kernel_rfl) (by kernel_rfl) (fun _ _ _ h => h) (.inl ⟨by kernel_rfl, fun w => rfl⟩) ?_
      refine wpAny_take (i := 3) (v := .pointer (some ⟨g, 0, none⟩)) rfl (by kernel_rfl) (by kernel_rfl) (by kernel_rfl) (fun _ _ _ h => h) (.inl ⟨by kernel_rfl, fun w => rfl⟩) ?_
      refine wpAny_take (i := 4) (v := .pointer (some ⟨g, 0, none⟩)) rfl (by kernel_rfl) (by kernel_rfl) (by kernel_rfl) (fun _ _ _ h => h) (.inl ⟨by kernel_rfl, fun w => by go_simp⟩) ?_
      refine wpAny_take (i := 5) (v := .pointer (some ⟨g, 0, none⟩)) rfl (by kernel_rfl) (by kernel_rfl) (by kernel_rfl) (fun _ _ _ h => h) (.inl ⟨by kernel_rfl, fun w => by go_simp⟩) ?_
      refine wpAny_ready (rs := [6, 7]) (by kernel_rfl) (by simp) ?_
      refine AllReady.cons rfl (fun K' hK => ?_) (AllReady.cons rfl (fun K' hK => ?_) (AllReady.nil))
      · rw [if_pos (by kernel_rfl)]
        go_simp
        refine hK _ _ ?_
        refine wpAny_ready (rs := [7]) (by kernel_rfl) (by simp) ?_
        refine AllReady.cons rfl (fun K' hK => ?_) (AllReady.nil)
        rw [if_pos (by kernel_rfl)]
        go_simp
        refine hK _ _ ?_
        refine wpAny_ready (rs := [8]) (by kernel_rfl) (by simp) ?_
        refine AllReady.cons rfl (fun K' hK => ?_) (AllReady.nil)
        rw [if_pos (by kernel_rfl)]
        go_simp
        refine (HMT.out).mono ?_
        rintro _ w5 ⟨rfl, hg5⟩
        refine hK _ _ ?_
        refine wpAny_take (i := 9) (v := .bool (!M)) rfl (by kernel_rfl) (by kernel_rfl) (by kernel_rfl) (fun _ _ _ h => h) (.inl ⟨by kernel_rfl, fun w => rfl⟩) ?_
        refine wpAny_take (i := 10) (v := .bool (!M)) rfl (by kernel_rfl) (by kernel_rfl) (by kernel_rfl) (fun _ _ _ h => h) (.inl ⟨by kernel_rfl, fun w => rfl⟩) ?_
        refine wpAny_done (by kernel_rfl) ?_ _
        go_simp
        go_wp2_with fail
        go_meet
        exact ⟨rfl, hide (bto (below_drew W) hg5.below)⟩
      · rw [if_pos (by kernel_rfl)]
        go_simp
        refine hK _ _ ?_
        refine wpAny_ready (rs := [6]) (by kernel_rfl) (by simp) ?_
        refine AllReady.cons rfl (fun K' hK => ?_) (AllReady.nil)
        rw [if_pos (by kernel_rfl)]
        go_simp
        refine hK _ _ ?_
        refine wpAny_ready (rs := [8]) (by kernel_rfl) (by simp) ?_
        refine AllReady.cons rfl (fun K' hK => ?_) (AllReady.nil)
        rw [if_pos (by kernel_rfl)]
        go_simp
        refine (HMT.out).mono ?_
        rintro _ w5 ⟨rfl, hg5⟩
        refine hK _ _ ?_
        refine wpAny_take (i := 9) (v := .bool (!M)) rfl (by kernel_rfl) (by kernel_rfl) (by kernel_rfl) (fun _ _ _ h => h) (.inl ⟨by kernel_rfl, fun w => rfl⟩) ?_
        refine wpAny_take (i := 10) (v := .bool (!M)) rfl (by kernel_rfl) (by kernel_rfl) (by kernel_rfl) (fun _ _ _ h => h) (.inl ⟨by kernel_rfl, fun w => rfl⟩) ?_
        refine wpAny_done (by kernel_rfl) ?_ _
        go_simp
        go_wp2_with fail
        go_meet
        exact ⟨rfl, hide (bto (below_drew W) hg5.below)⟩
    case rest =>
      obtain ⟨rfl, hbc⟩ := hcut
      clear c0 c1 c2 c3 c4 c5 q0 q1 q2 q3
      have HKC := hide (HK.out.lift hbc.out)
      have hcc := blkB hbc.out HCW.out
      obtain ⟨_, _, _, _, d4, d5⟩ := box6n hcc
      cases M with
      | false =>
        have HE := hide (hitL_none hn.within HM.out)
        clear hn hcc d4 d5
        go_wp2_with fail
        exact bodyPost_ret (results_none rfl _ _ _) rfl ⟨rfl, by rw [HE.out, List.append_nil]; exact HKC.out⟩
      | true =>
        obtain ⟨_, _, id', rfl, hcell'⟩ := hn
        obtain ⟨rfl, rfl⟩ : id = id' ∧ pv = .slice none 0 0 := by
          have h1 := (HK.out.gr.block g (lt_of_block hcell') (fun e => HGO.out (Option.some.inj e))).trans hcell'
          rw [HCW.out] at h1
          simp [ndC] at h1
          exact h1
        have HN := eql_nil none 0 0 wc
        obtain ⟨ov, ho1, ho2⟩ := HKC.out.out
        have HO1 := hide ho1
        have HO2 := hide ho2
        clear ho1 ho2 hcell' hcc
        go_upto_region 2 with (fail)
        go_cut [] from 23 to 29 (fun wx => Hid (WkI w1 q Bb Bo Bw (H ++ [id]) wx))
        case first =>
          have HW2 := hide (HKC.out.lift (below_drew wc))
          have e5 : wc.drew.cell? ⟨g, 4, none⟩ = some (.string id) := d4
          have e0 : wc.drew.cell? ⟨Bo, 0, none⟩ = some ov := cell_of_row _ _ 0 _ _ _ HO1.out
          have HO2D := hide (own_below HO2.out (below_drew wc))
          have HO1D := hide (blkB (below_drew wc) HO1.out)
          clear d4 d5
          refine wp_region_any hmx ?_
          change wpAny _ _ _ _ _ _ _ (World.drew _)
          generalize wc.drew = wd at *
          have hba : Below wd.heap.size wd (wd.alloc (.cells #[.string id] 9)) := (Below.refl _ _).alloc (Nat.le_refl _) _
          have e6 := cell_of_row _ Bo 0 _ _ _ (blkB hba HO1D.out)
          have HO6 := hide (own_below HO2D.out hba)
          have HW6 := hide (HW2.out.lift hba)
          have HO16 := hide (blkB hba HO1D.out)
          clear hba
          refine wpAny_take (i := 1) (v := .pointer (some ⟨g, 0, none⟩)) rfl (by kernel_rfl) (by kernel_rfl) (by kernel_rfl) (fun _ _ _ h => h) (.inl ⟨by kernel_rfl, fun w => rfl⟩) ?_
          refine wpAny_take (i := 2) (v := .pointer (some ⟨g, 0, none⟩)) rfl (by kernel_rfl) (by kernel_rfl) (by kernel_rfl) (fun _ _ _ h => h) (.inl ⟨by kernel_rfl, fun w => by go_simp⟩) ?_
          refine wpAny_take (i := 3) (v := .pointer (some ⟨g, 4, none⟩)) rfl (by kernel_rfl) (by kernel_rfl) (by kernel_rfl) (fun _ _ _ h => h) (.inl ⟨by kernel_rfl, fun w => by go_simp⟩) ?_
          refine wpAny_ready (rs := [0, 4]) (by kernel_rfl) (by simp) ?_
          refine AllReady.cons rfl (fun K' hK => ?_) (AllReady.cons rfl (fun K' hK => ?_) (AllReady.nil))
          · rw [if_pos (by kernel_rfl)]
            go_simp
            refine hK _ _ ?_
            refine wpAny_ready (rs := [4]) (by kernel_rfl) (by simp) ?_
            refine AllReady.cons rfl (fun K' hK => ?_) (AllReady.nil)
            rw [if_pos (by kernel_rfl)]
            go_simp
            refine hK _ _ ?_
            refine wpAny_ready (rs := [5]) (by kernel_rfl) (by simp) ?_
            refine AllReady.cons rfl (fun K' hK => ?_) (AllReady.nil)
            rw [if_pos (by kernel_rfl)]
            go_simp
            refine hK _ _ ?_
            refine wpAny_ready (rs := [6]) (by kernel_rfl) (by simp) ?_
            refine AllReady.cons rfl (fun K' hK => ?_) (AllReady.nil)
            refine step_append_lies _ rfl (.tmp 23) (.tmp 28) 39 rfl w1.heap.size 9 j0 (.string ⟨#[]⟩) 1 16 Tryz.underlying39 HJ0.out HY0.out HY1.out HY2.out rfl (by decide) ov H.length (H.map .string) rfl HO6.out ⟨wd.heap.size, 0, none⟩ 1 1 [.string id] rfl rfl (fun j u hj => World.news_of_block (cs := #[.string id]) (t := 9) (fr := (0, 0)) (heap_alloc_new wd _) j u hj) (fun u hu => by simp at hu; rw [hu]; rfl) (by decide) (by unfold maxLen; omega) (by omega) HW6.out.gr.size (wd.heap.size + 1) (by simp) ?_
            intro g9 cap9 w9 hown9 hgrow9 hat9 hlt9
            have hb9 := (hgrow9.block Bo (lt_of_block HO16.out) (fun e => row_ne_blk HO6.out HO16.out (by decide) e)).trans HO16.out
            have x0 := cell_of_row _ Bo 0 _ _ _ hb9
            have x1 := frozen_of_row _ Bo 0 _ _ hb9
            clear hb9
            refine hK _ _ ?_
            refine wpAny_ready (rs := [7]) (by kernel_rfl) (by simp) ?_
            refine AllReady.cons rfl (fun K' hK => ?_) (AllReady.nil)
            rw [if_pos (by kernel_rfl)]
            go_simp
            refine hK _ _ ?_
            refine wpAny_done (by kernel_rfl) ?_ _
            go_simp
            go_wp2_with fail
            go_meet
            exact hide (HW6.out.push HO16.out HO6.out hown9 hgrow9)
          · rw [if_pos (by kernel_rfl)]
            go_simp
            refine hK _ _ ?_
            refine wpAny_ready (rs := [0, 5]) (by kernel_rfl) (by simp) ?_
            refine AllReady.cons rfl (fun K' hK => ?_) (AllReady.cons rfl (fun K' hK => ?_) (AllReady.nil))
            · rw [if_pos (by kernel_rfl)]
              go_simp
              refine hK _ _ ?_
              refine wpAny_ready (rs := [5]) (by kernel_rfl) (by simp) ?_
              refine AllReady.cons rfl (fun K' hK => ?_) (AllReady.nil)
              rw [if_pos (by kernel_rfl)]
              go_simp
              refine hK _ _ ?_
              refine wpAny_ready (rs := [6]) (by kernel_rfl) (by simp) ?_
              refine AllReady.cons rfl (fun K' hK => ?_) (AllReady.nil)
              refine step_append_lies _ rfl (.tmp 23) (.tmp 28) 39 rfl w1.heap.size 9 j0 (.string ⟨#[]⟩) 1 16 Tryz.underlying39 HJ0.out HY0.out HY1.out HY2.out rfl (by decide) ov H.length (H.map .string) rfl HO6.out ⟨wd.heap.size, 0, none⟩ 1 1 [.string id] rfl rfl (fun j u hj => World.news_of_block (cs := #[.string id]) (t := 9) (fr := (0, 0)) (heap_alloc_new wd _) j u hj) (fun u hu => by simp at hu; rw [hu]; rfl) (by decide) (by unfold maxLen; omega) (by omega) HW6.out.gr.size (wd.heap.size + 1) (by simp) ?_
              intro g9 cap9 w9 hown9 hgrow9 hat9 hlt9
              have hb9 := (hgrow9.block Bo (lt_of_block HO16.out) (fun e => row_ne_blk HO6.out HO16.out (by decide) e)).trans HO16.out
              have x0 := cell_of_row _ Bo 0 _ _ _ hb9
              have x1 := frozen_of_row _ Bo 0 _ _ hb9
              clear hb9
              refine hK _ _ ?_
              refine wpAny_ready (rs := [7]) (by kernel_rfl) (by simp) ?_
              refine AllReady.cons rfl (fun K' hK => ?_) (AllReady.nil)
              rw [if_pos (by kernel_rfl)]
              go_simp
              refine hK _ _ ?_
              refine wpAny_done (by kernel_rfl) ?_ _
              go_simp
              go_wp2_with fail
              go_meet
              exact hide (HW6.out.push HO16.out HO6.out hown9 hgrow9)
            · rw [if_pos (by kernel_rfl)]
              go_simp
              refine hK _ _ ?_
              refine wpAny_ready (rs := [0]) (by kernel_rfl) (by simp) ?_
              refine AllReady.cons rfl (fun K' hK => ?_) (AllReady.nil)
              rw [if_pos (by kernel_rfl)]
              go_simp
              refine hK _ _ ?_
              refine wpAny_ready (rs := [6]) (by kernel_rfl) (by simp) ?_
              refine AllReady.cons rfl (fun K' hK => ?_) (AllReady.nil)
              refine step_append_lies _ rfl (.tmp 23) (.tmp 28) 39 rfl w1.heap.size 9 j0 (.string ⟨#[]⟩) 1 16 Tryz.underlying39 HJ0.out HY0.out HY1.out HY2.out rfl (by decide) ov H.length (H.map .string) rfl HO6.out ⟨wd.heap.size, 0, none⟩ 1 1 [.string id] rfl rfl (fun j u hj => World.news_of_block (cs := #[.string id]) (t := 9) (fr := (0, 0)) (heap_alloc_new wd _) j u hj) (fun u hu => by simp at hu; rw [hu]; rfl) (by decide) (by unfold maxLen; omega) (by omega) HW6.out.gr.size (wd.heap.size + 1) (by simp) ?_
              intro g9 cap9 w9 hown9 hgrow9 hat9 hlt9
              have hb9 := (hgrow9.block Bo (lt_of_block HO16.out) (fun e => row_ne_blk HO6.out HO16.out (by decide) e)).trans HO16.out
              have x0 := cell_of_row _ Bo 0 _ _ _ hb9
              have x1 := frozen_of_row _ Bo 0 _ _ hb9
              clear hb9
              refine hK _ _ ?_
              refine wpAny_ready (rs := [7]) (by kernel_rfl) (by simp) ?_
              refine AllReady.cons rfl (fun K' hK => ?_) (AllReady.nil)
              rw [if_pos (by kernel_rfl)]
              go_simp
              refine hK _ _ ?_
              refine wpAny_done (by kernel_rfl) ?_ _
              go_simp
              go_wp2_with fail
              go_meet
              exact hide (HW6.out.push HO16.out HO6.out hown9 hgrow9)
        case rest =>
          have HKF := hide hcut.out
          have hcf := (HKF.out.gr.block g HGL.out (fun e => HGO.out (Option.some.inj e))).trans HGC.out
          obtain ⟨_, _, _, _, d4', d5'⟩ := box6n hcf
          have HHS := hide (hit_self q bx id)
          rw [HM.out] at HHS
          clear hcf hcut d4 d5
          go_wp2_with fail
          refine wp_loop_rounds 1 ?_
          rw [rounds_succ]
          go_wp2_with fail
          go_end0
          exact ⟨rfl, by rw [HHS.out]; exact HKF.out⟩

  | succ d ih =>
    intro g bx ls H W hn hk hl
    obtain ⟨j0, hj, hy0, hy1, hy2⟩ := info_parts3 info_string
    have HJ0 := hide hj
    have HY0 := hide hy0
    have HY1 := hide hy1
    have HY2 := hide hy2
    clear hj hy0 hy1 hy2
    obtain ⟨id, pv, hcell, hsl⟩ := hn.cells
    have hcW := (hk.gr.block g (lt_of_block hcell) (fun e => hn.out (Option.some.inj e))).trans hcell
    have hmx : Tryz.prog.follows .mixedOrders = true := by kernel_rfl
    have HMT := hide (meet_any bx q W.drew)
    have hwd := hk.lift (below_drew W)
    have hcd := blkB (below_drew W) hcW
    obtain ⟨c0, c1, c2, c3, c4, c5⟩ := box6n hcd
    obtain ⟨⟨q0, q1, q2, q3⟩, _⟩ := blk4 hwd.b
    have HK := hide hk
    have HGO := hide hn.out
    have HGL := hide (lt_of_block hcell)
    have HGC := hide hcell
    have HCW := hide hcW
    unfold bxC at HMT
    obtain ⟨M, hM⟩ : ∃ M, meetX bx q = M := ⟨_, rfl⟩
    rw [hM] at HMT
    have HM := hide hM
    clear hk hcW hcell hM hwd hcd
    go_enter Tryz.func70, Tryz.ntmps70
    go_upto_region 0 with (fail)
    go_cut [17] from 7 to 17 (fun s17 wx => s17 = .bool (!M) ∧ Hid (Below W.heap.size W wx))
    case first =>
      refine wp_region_any hmx ?_
      change wpAny _ _ _ _ _ _ _ (World.drew _)
      refine wpAny_take (i := 0) (v := .pointer (some ⟨g, 0, none⟩)) rfl (by kernel_rfl) (by kernel_rfl) (by kernel_rfl) (fun _ _ _ h => h) (.inl ⟨by kernel_rfl, fun w => rfl⟩) ?_
      refine wpAny_take (i := 1) (v := .bool false) rfl (by kernel_rfl) (by kernel_rfl) (by kernel_rfl) (fun _ _ _ h => h) (.inl ⟨by kernel_rfl, fun w => by go_simp⟩) ?_
      refine wpAny_take (i := 2) (v := .bool false) rfl (by kernel_rfl) (by kernel_rfl) (by kernel_rfl) (fun _ _ _ h => h) (.inl ⟨by kernel_rfl, fun w => rfl⟩) ?_
      refine wpAny_take (i := 3) (v := .pointer (some ⟨g, 0, none⟩)) rfl (by kernel_rfl) (by kernel_rfl) (by kernel_rfl) (fun _ _ _ h => h) (.inl ⟨by kernel_rfl, fun w => rfl⟩) ?_
      refine wpAny_take (i := 4) (v := .pointer (some ⟨g, 0, none⟩)) rfl (by kernel_rfl) (by kernel_rfl) (by kernel_rfl) (fun _ _ _ h => h) (.inl ⟨by kernel_rfl, fun w => by go_simp⟩) ?_
      refine wpAny_take (i := 5) (v := .pointer (some ⟨g, 0, none⟩)) rfl (by kernel_rfl) (by kernel_rfl) (by kernel_rfl) (fun _ _ _ h => h) (.inl ⟨by kernel_rfl, fun w => by go_simp⟩) ?_
      refine wpAny_ready (rs := [6, 7]) (by kernel_rfl) (by simp) ?_
      refine AllReady.cons rfl (fun K' hK => ?_) (AllReady.cons rfl (fun K' hK => ?_) (AllReady.nil))
      · rw [if_pos (by kernel_rfl)]
        go_simp
        refine hK _ _ ?_
        refine wpAny_ready (rs := [7]) (by kernel_rfl) (by simp) ?_
        refine AllReady.cons rfl (fun K' hK => ?_) (AllReady.nil)
        rw [if_pos (by kernel_rfl)]
        go_simp
        refine hK _ _ ?_
        refine wpAny_ready (rs := [8]) (by kernel_rfl) (by simp) ?_
        refine AllReady.cons rfl (fun K' hK => ?_) (AllReady.nil)
        rw [if_pos (by kernel_rfl)]
        go_simp
        refine (HMT.out).mono ?_
        rintro _ w5 ⟨rfl, hg5⟩
        refine hK _ _ ?_
        refine wpAny_take (i := 9) (v := .bool (!M)) rfl (by kernel_rfl) (by kernel_rfl) (by kernel_rfl) (fun _ _ _ h => h) (.inl ⟨by kernel_rfl, fun w => rfl⟩) ?_
        refine wpAny_take (i := 10) (v := .bool (!M)) rfl (by kernel_rfl) (by kernel_rfl) (by kernel_rfl) (fun _ _ _ h => h) (.inl ⟨by kernel_rfl, fun w => rfl⟩) ?_
        refine wpAny_done (by kernel_rfl) ?_ _
        go_simp
        go_wp2_with fail
        go_meet
        exact ⟨rfl, hide (bto (below_drew W) hg5.below)⟩
      · rw [if_pos (by kernel_rfl)]
        go_simp
        refine hK _ _ ?_
        refine wpAny_ready (rs := [6]) (by kernel_rfl) (by simp) ?_
        refine AllReady.cons rfl (fun K' hK => ?_) (AllReady.nil)
        rw [if_pos (by kernel_rfl)]
        go_simp
        refine hK _ _ ?_
        refine wpAny_ready (rs := [8]) (by kernel_rfl) (by simp) ?_
        refine AllReady.cons rfl (fun K' hK => ?_) (AllReady.nil)
        rw [if_pos (by kernel_rfl)]
        go_simp
        refine (HMT.out).mono ?_
        rintro _ w5 ⟨rfl, hg5⟩
        refine hK _ _ ?_
        refine wpAny_take (i := 9) (v := .bool (!M)) rfl (by kernel_rfl) (by kernel_rfl) (by kernel_rfl) (fun _ _ _ h => h) (.inl ⟨by kernel_rfl, fun w => rfl⟩) ?_
        refine wpAny_take (i := 10) (v := .bool (!M)) rfl (by kernel_rfl) (by kernel_rfl) (by kernel_rfl) (fun _ _ _ h => h) (.inl ⟨by kernel_rfl, fun w => rfl⟩) ?_
        refine wpAny_done (by kernel_rfl) ?_ _
        go_simp
        go_wp2_with fail
        go_meet
        exact ⟨rfl, hide (bto (below_drew W) hg5.below)⟩
    case rest =>
      obtain ⟨rfl, hbc⟩ := hcut
      clear c0 c1 c2 c3 c4 c5 q0 q1 q2 q3
      have HKC := hide (HK.out.lift hbc.out)
      have hcc := blkB hbc.out HCW.out
      obtain ⟨_, _, _, _, d4, d5⟩ := box6n hcc
      cases M with
      | false =>
        have HE := hide (hitL_none hn.within HM.out)
        clear hn hcc d4 d5
        go_wp2_with fail
        exact bodyPost_ret (results_none rfl _ _ _) rfl ⟨rfl, by rw [HE.out, List.append_nil]; exact HKC.out⟩
      | true =>
        obtain ⟨_, _, p, c, ps, hcell', hp1, hp2, hp3, hp4, hp5, rfl, hwi⟩ := hn
        obtain ⟨rfl, rfl⟩ : id = ⟨#[]⟩ ∧ pv = .slice (some ⟨p, 0, none⟩) ps.length c := by
          have h1 := (HK.out.gr.block g (lt_of_block hcell') (fun e => HGO.out (Option.some.inj e))).trans hcell'
          rw [HCW.out] at h1
          simp [ndC] at h1
          exact h1
        have HN := eql_nil (some ⟨p, 0, none⟩) ps.length c wc
        have HPL := hide (leaves_least (X := fun b => b = Bo) (W := w1) (d := d) (L := ps) hp5)
        have HLL := hide hl
        have HP1 := hide hp1
        have HP2 := hide hp2
        have HP4 := hide hp4
        have HP5 := hide hp5
        clear hcell' hcc hp1 hp2 hp3 hp4 hp5 hwi hl HCW
        go_wp2_with fail
        have HS0 : Hid (WkI w1 q Bb Bo Bw (H ++ hitL q (leavesN (ps.take 0))) wc) := hide (by have := HKC.out; simpa [leavesN, hitL] using this)
        go_loopw [35] (fun i wr => ∃ k : Nat, k ≤ ps.length ∧ i = .int .i64 k ∧ Hid (WkI w1 q Bb Bo Bw (H ++ hitL q (leavesN (ps.take k))) wr)) (fun i _ => ps.length - (intOf i).toNat)
        case atStart => exact ⟨0, Nat.zero_le _, rfl, HS0⟩
        case round =>
          clear HS0 d4 d5 HKC
          obtain ⟨k, hk, rfl, hi⟩ := hrel
          have hle := HPL.out
          have hll := HLL.out
          by_cases hlt : k < ps.length
          · have k0 : (0 : Int) ≤ (k : Nat) := by omega
            have k1 : ((k : Nat) : Int) < (ps.length : Nat) := by omega
            have hbd := leaves_bound ps hlt
            have hhl := hit_len q (leavesN (ps.take k))
            have HNX : Hid (hitL q (leavesN (ps.take (k + 1))) = hitL q (leavesN (ps.take k)) ++ hitL q ps[k].ls) := hide (by rw [leaves_next ps hlt, hitL_app])
            have hpc := HP4.out k _ (List.getElem?_eq_getElem hlt)
            have hnd := HP5.out _ (List.getElem_mem hlt)
            have e1 := (World.cell?_of_block (a := ⟨p, k, none⟩) (hi.out.gr.block p HP2.out (fun e => HP1.out (Option.some.inj e)))).trans hpc
            have e2 := cell_of_row _ Bw 0 _ _ _ hi.out.w
            have HC := hide (ih ps[k].g ps[k].bx ps[k].ls (H ++ hitL q (leavesN (ps.take k))) wr hnd hi.out (by rw [List.length_append]; omega))
            generalize ps[k] = x at *
            have HS := hide hlt
            have HMS := hide (show ps.length - (k + 1) < ps.length - k from by omega)
            unfold ndP at e1
            unfold walkV at e2
            clear hk hlt hbd hhl hpc hnd hi
            go_wp2_with (go_at_call 70; refine HC.out.mono ?_; rintro _ wn ⟨rfl, hn9⟩; have HN9 := hide hn9; clear hn9)
            refine ⟨⟨k + 1, HS.out, by go_num, hide (by rw [HNX.out, ← List.append_assoc]; exact HN9.out)⟩, ?_⟩
            have := HMS.out
            simp [intOf]; omega
          · obtain rfl : k = ps.length := by omega
            have k1 : ¬ ((ps.length : Nat) : Int) < (ps.length : Nat) := by omega
            rw [List.take_length] at hi
            go_wp2_with fail
            go_end0
            exact ⟨rfl, hi.out⟩

end Go.Proofs.YtfkgjbdeicggaaaGreat
