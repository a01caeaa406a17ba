/-
  slices.DeleteFunc over the sweep's items, walked.
-/
import Derived.Test.YtfkgjbdeicggaaaGreatTopB
import Derived.Lib.SliceRun
import Derived.LoopTactic
namespace Go.Proofs.YtfkgjbdeicggaaaGreat
open Go.RowKit Go.Proofs.PlGeom Go.Proofs.PlTop

/-- clear over a slice of structs. -/
theorem run_clear_k {P : Program} (w : World) (t e ty : TypeId) (z : Value) (k : Nat) (ht : P.underlying t = some (.slice e)) (hv : ∀ w, (zeroValue e).run P w = .ok z w) (hz : z.cells.size = k) (h1 : ∀ u ∈ z.cells.toList, u.oneCell' = true) (b o n c : Nat) (hn : 0 < n)
    (hc : ∀ j, j < n * k → (w.cell? ⟨b, o + j, none⟩).isSome = true) (hf : ∀ j, j < n * k → w.frozen? ⟨b, o + j, none⟩ = false) :
    ∃ F : List Value, F.length = n * k ∧ (Builtin.clear_ #[t] ty #[.slice (some ⟨b, o, none⟩) n c]).run P w = .ok (.tuple #[]) (w.setCells b o F) := by
  have hl : (Builtin.zeroCells z.cells n).toList.length = n * k := by simp [Builtin.zeroCells, hz]
  have hst := run_storeCells_cells (P := P) b o (Builtin.zeroCells z.cells n).toList 0 w (by simpa [hl] using hc) (by simpa [hl] using hf) (by
    intro v hv'
    unfold Builtin.zeroCells at hv'
    rw [Array.toList_map, List.mem_map] at hv'
    obtain ⟨i, hi, rfl⟩ := hv'
    have hi2 : i < n * z.cells.size := by simpa using hi
    have hp : 0 < z.cells.size := by
      rcases Nat.eq_zero_or_pos z.cells.size with h | h
      · rw [h] at hi2; omega
      · exact h
    rw [getElem!_pos z.cells _ (Nat.mod_lt _ hp)]
    exact h1 _ (Array.getElem_mem_toList _))
  simp only [Nat.add_zero] at hst
  obtain ⟨m, rfl⟩ : ∃ m, n = m + 1 := ⟨n - 1, by omega⟩
  refine ⟨_, hl, ?_⟩
  simp [Builtin.clear_, run_underlying ht, hv, hst]
/-- A store into a row of the call's own. -/
theorem own_put {W : World} {B g n cap k : Nat} {e : TypeId} {xs : List Value} (h : W.ownsRow B e k (.slice (some ⟨g, 0, none⟩) n cap) n xs) (t : Nat) (u : Value) : (W.setCell ⟨g, t, none⟩ u).ownsRow B e k (.slice (some ⟨g, 0, none⟩) n cap) n (xs.set t u) := by
  obtain ⟨hl, h2⟩ := h
  rcases h2 with ⟨hv, _⟩ | ⟨g', cap', cur, hv, hB, hb, hc, hm, hs, hx⟩
  · cases hv
  cases hv
  have hlt : g < W.heap.size := (Array.getElem?_eq_some_iff.1 hb).1
  have h' : W.heap[g] = .cells cur e (0, 0) := by simpa [Array.getElem?_eq_getElem hlt] using hb
  have hb2 : (W.setCell ⟨g, t, none⟩ u).heap[g]? = some (.cells (cur.setIfInBounds t u) e (0, 0)) := by
    show (W.heap.modify g _)[g]? = _
    rw [Array.getElem?_eq_getElem (by simpa using hlt), Array.getElem_modify_self, h']
    rfl
  refine ⟨by rw [List.length_set, hl], .inr ⟨g, cap, _, rfl, hB, hb2, hc, hm, by rw [Array.size_setIfInBounds, hs], ?_⟩⟩
  rw [Array.toList_setIfInBounds, List.take_set, hx]
theorem own_put_grown (w : World) (g j : Nat) (v : Value) : w.grownBy (w.setCell ⟨g, j, none⟩ v) (some g) :=
  ⟨rfl, rfl, rfl, by simp [World.setCell], fun i hi hr => by
    have : g ≠ i := fun e => hr (by rw [e])
    simp [World.setCell, Array.getElem?_modify, this]⟩
theorem own_frz {W : World} {B g n cap k : Nat} {e : TypeId} {xs : List Value} (h : W.ownsRow B e k (.slice (some ⟨g, 0, none⟩) n cap) n xs) (t : Nat) : W.frozen? ⟨g, t, none⟩ = false := by
  rcases h.2 with ⟨hv, _⟩ | ⟨g', cap', cur, hv, hB, hb, _⟩
  · cases hv
  · cases hv
    simp [World.frozen?, hb]
theorem own_cell {W : World} {B g n cap k : Nat} {e : TypeId} {xs : List Value} (h : W.ownsRow B e k (.slice (some ⟨g, 0, none⟩) n cap) n xs) (t : Nat) (u : Value) (hu : xs[t]? = some u) : W.cell? ⟨g, t, none⟩ = some u := by
  have := World.ownsRow.cells h (g := g) rfl t u hu
  rw [show (⟨g, 0, none⟩ : Addr).add t = ⟨g, t, none⟩ from by simp only [Addr.add, Nat.zero_add]; split <;> simp_all] at this
  exact this
theorem own_keep {w w' : World} {B : Nat} {e : TypeId} {sz : Nat} {v : Value} {n : Nat} {xs : List Value} (h : w.ownsRow B e sz v n xs) (hb : Below w.heap.size w w') : w'.ownsRow B e sz v n xs := by
  obtain ⟨h1, h2⟩ := h
  refine ⟨h1, ?_⟩
  rcases h2 with h2 | ⟨g, cap, cur, hv, hg, hh, rr⟩
  · exact .inl h2
  · exact .inr ⟨g, cap, cur, hv, hg, (hb.block g (Array.getElem?_eq_some_iff.1 hh).1).trans hh, rr⟩
/-- The cells of the item number i in a row of items. -/
theorem item_cells {W : World} {B g n cap : Nat} {l : List It} (h : W.ownsRow B 135 9 (.slice (some ⟨g, 0, none⟩) n cap) n (l.flatMap encI)) {i : Nat} {x : It} (hx : l[i]? = some x) :
    W.cell? ⟨g, i * 9, none⟩ = some (.int .i64 (x.ix : Int)) ∧ W.cell? ⟨g, i * 9 + 1, none⟩ = some (.int .i64 x.s.a.x) ∧ W.cell? ⟨g, i * 9 + 2, none⟩ = some (.int .i64 x.s.a.y) ∧ W.cell? ⟨g, i * 9 + 3, none⟩ = some (.int .i64 x.s.b.x) ∧ W.cell? ⟨g, i * 9 + 4, none⟩ = some (.int .i64 x.s.b.y) ∧
      W.cell? ⟨g, i * 9 + 5, none⟩ = some (.int .i64 x.xl) ∧ W.cell? ⟨g, i * 9 + 6, none⟩ = some (.int .i64 x.xh) ∧ W.cell? ⟨g, i * 9 + 7, none⟩ = some (.int .i64 x.yl) ∧ W.cell? ⟨g, i * 9 + 8, none⟩ = some (.int .i64 x.yh) := by
  have key : ∀ j (u : Value), j < 9 → (encI x)[j]? = some u → W.cell? ⟨g, i * 9 + j, none⟩ = some u := fun j u hj hu => own_cell h (i * 9 + j) u (by
    have := flat_get (enc := encI) (k := 9) (fun _ => rfl) l i j hj
    rw [this, hx]
    exact hu)
  exact ⟨key 0 _ (by omega) rfl, key 1 _ (by omega) rfl, key 2 _ (by omega) rfl, key 3 _ (by omega) rfl, key 4 _ (by omega) rfl, key 5 _ (by omega) rfl, key 6 _ (by omega) rfl, key 7 _ (by omega) rfl, key 8 _ (by omega) rfl⟩
/-- An item stored into a row of items. -/
def put9 (W : World) (g i : Nat) (x : It) : World := ((((((((W.setCell ⟨g, i * 9, none⟩ (.int .i64 (x.ix : Int))).setCell ⟨g, i * 9 + 1, none⟩ (.int .i64 x.s.a.x)).setCell ⟨g, i * 9 + 2, none⟩ (.int .i64 x.s.a.y)).setCell ⟨g, i * 9 + 3, none⟩ (.int .i64 x.s.b.x)).setCell ⟨g, i * 9 + 4, none⟩ (.int .i64 x.s.b.y)).setCell ⟨g, i * 9 + 5, none⟩ (.int .i64 x.xl)).setCell ⟨g, i * 9 + 6, none⟩ (.int .i64 x.xh)).setCell ⟨g, i * 9 + 7, none⟩ (.int .i64 x.yl)).setCell ⟨g, i * 9 + 8, none⟩ (.int .i64 x.yh)
theorem flat_set {l : List It} {i : Nat} (hi : i < l.length) (x : It) :
    ((((((((((l.flatMap encI).set (i * 9) (.int .i64 (x.ix : Int))).set (i * 9 + 1) (.int .i64 x.s.a.x)).set (i * 9 + 2) (.int .i64 x.s.a.y)).set (i * 9 + 3) (.int .i64 x.s.b.x)).set (i * 9 + 4) (.int .i64 x.s.b.y)).set (i * 9 + 5) (.int .i64 x.xl)).set (i * 9 + 6) (.int .i64 x.xh)).set (i * 9 + 7) (.int .i64 x.yl)).set (i * 9 + 8) (.int .i64 x.yh)) = (l.set i x).flatMap encI := by
  induction l generalizing i with
  | nil => simp at hi
  | cons y l ih =>
    cases i with
    | zero => rfl
    | succ i =>
      have := ih (i := i) (by simpa using hi)
      rw [List.set_cons_succ, List.flatMap_cons, List.flatMap_cons, ← this]
      simp only [Nat.succ_mul]
      rfl
theorem put9_own {W : World} {B g n cap : Nat} {l : List It} (h : W.ownsRow B 135 9 (.slice (some ⟨g, 0, none⟩) n cap) n (l.flatMap encI)) {i : Nat} (hi : i < l.length) (x : It) :
    (put9 W g i x).ownsRow B 135 9 (.slice (some ⟨g, 0, none⟩) n cap) n ((l.set i x).flatMap encI) ∧ W.grownBy (put9 W g i x) (some g) := by
  refine ⟨?_, ?_⟩
  · rw [← flat_set hi x]
    unfold put9
    exact own_put (own_put (own_put (own_put (own_put (own_put (own_put (own_put (own_put h _ _) _ _) _ _) _ _) _ _) _ _) _ _) _ _) _ _
  · have tr : ∀ {a b c : World} {row : Option Nat}, a.grownBy b row → b.grownBy c row → a.grownBy c row := fun h k => ⟨k.os.trans h.os, k.tape.trans h.tape, k.output.trans h.output, Nat.le_trans h.size k.size, fun i hi hr => (k.block i (Nat.lt_of_lt_of_le hi h.size) hr).trans (h.block i hi hr)⟩
    have g1 := fun (W : World) j v => own_put_grown W g j v
    unfold put9
    exact tr (tr (tr (tr (tr (tr (tr (tr (g1 _ _ _) (g1 _ _ _)) (g1 _ _ _)) (g1 _ _ _)) (g1 _ _ _)) (g1 _ _ _)) (g1 _ _ _)) (g1 _ _ _)) (g1 _ _ _)
/-- The place of the first item that ends before a begins. -/
def endI (a : It) (l : List It) : Int := match l.findIdx? (fun b => decide (b.xh < a.xl)) with | some k => k | none => -1
theorem endI_drop (a : It) (l : List It) (k : Nat) (h : ∀ b ∈ l.take k, ¬ b.xh < a.xl) {x : It} (hx : l[k]? = some x) (hp : x.xh < a.xl) : endI a l = k := by
  have hf : l.findIdx? (fun b => decide (b.xh < a.xl)) = some k := by
    rw [List.findIdx?_eq_some_iff_getElem]
    obtain ⟨hk, e⟩ := List.getElem?_eq_some_iff.1 hx
    refine ⟨hk, by rw [e]; exact decide_eq_true hp, fun j hj => ?_⟩
    have hjl : j < l.length := by omega
    have hm : l[j] ∈ l.take k := by
      rw [List.mem_take_iff_getElem]
      exact ⟨j, by omega, rfl⟩
    have := h _ hm
    simpa using this
  unfold endI
  rw [hf]
theorem endI_none (a : It) (l : List It) (h : ∀ b ∈ l, ¬ b.xh < a.xl) : endI a l = -1 := by
  have hf : l.findIdx? (fun b => decide (b.xh < a.xl)) = none := by
    rw [List.findIdx?_eq_none_iff]
    intro x hx
    exact decide_eq_false (h x hx)
  unfold endI
  rw [hf]
/-- None of these items ends before a begins. -/
def NoEnd (a : It) (l : List It) : Prop := ∀ b ∈ l, ¬ b.xh < a.xl
set_option maxRecDepth 100000 in
set_option maxHeartbeats 8000000 in
theorem first_end (B gb n : Nat) (a : It) (l : List It) (v : Value) (W : World) (h : W.ownsRow B 135 9 v n (l.flatMap encI)) (hn : n = l.length) (hl : l.length ≤ 1000000) (hb : W.heap[gb]? = some (.cells (encI a).toArray 135 (0, 0))) :
    Calls Tryz.prog 119 #[v, .func (Fn.func 65) #[] #[.pointer (some ⟨gb, 0, none⟩)]] W fun e w' => e = .returned (.int .i64 (endI a l)) ∧ Grows W w' := by
  obtain ⟨A, c, rfl⟩ : ∃ A c, v = .slice A n c := by
    rcases h.2 with ⟨rfl, h0⟩ | ⟨g, cap, cur, rfl, _⟩
    · exact ⟨none, 0, by rw [h0]⟩
    · exact ⟨_, _, rfl⟩
  obtain ⟨V, hV⟩ : ∃ V, endI a l = V := ⟨_, rfl⟩
  rw [hV]
  have HV := hide hV
  have HR := hide h
  have HBK := hide hb
  have HN := hide hn
  have HGW : Hid (Grows W W) := Grows.refl W
  clear hV h hb hn
  go_enter Tryz.func119, Tryz.ntmps119
  go_wp2_with fail
  go_loopw [8] (fun i wr => ∃ k : Nat, k ≤ n ∧ i = .int .i64 k ∧ Hid (NoEnd a (l.take k)) ∧ Hid (Grows W wr)) (fun i _ => n - (intOf i).toNat)
  case atStart => exact ⟨0, Nat.zero_le _, rfl, hide (fun b hb => by simp at hb), HGW⟩
  case round =>
    clear HGW
    obtain ⟨k, hk, rfl, hno, hgr⟩ := hrel
    by_cases hlt : k < n
    · have hkl : k < l.length := by rw [← HN.out]; exact hlt
      have hks := List.getElem?_eq_getElem hkl
      generalize l[k] = x at *
      have hrow := own_keep HR.out hgr.out.below
      have hbk : wr.heap[gb]? = some (.cells (encI a).toArray 135 (0, 0)) := (hgr.out.below.block gb (Array.getElem?_eq_some_iff.1 HBK.out).1).trans HBK.out
      have HE := hide (ends_item gb a x wr hbk)
      have HTK : Hid (l.take (k + 1) = l.take k ++ [x]) := by rw [List.take_add_one, hks]; exact hide rfl
      obtain ⟨g, rfl⟩ : ∃ g, A = some ⟨g, 0, none⟩ := by
        rcases hrow.2 with ⟨hv, h0⟩ | ⟨g, cap, cur, hv, _⟩
        · omega
        · cases hv; exact ⟨g, rfl⟩
      have hcap : c ≤ c := Nat.le_refl _
      obtain ⟨c0, c1, c2, c3, c4, c5, c6, c7, c8⟩ := item_cells hrow hks
      have HNO := hide hno.out
      have HGR := hide hgr.out
      have HKS := hide hks
      have k0 : (0 : Int) ≤ (k : Int) := by omega
      have k1 : (k : Int) < (n : Nat) := by omega
      have HLT := hide hlt
      have HNL : Hid (n ≤ 1000000) := by rw [HN.out]; exact hide hl
      clear hkl hks hrow hbk hno hgr hlt hk hl hcap
      unfold encI at HE
      by_cases hp : x.xh < a.xl
      · have HVE : Hid (V = (k : Int)) := by rw [← HV.out]; exact hide (endI_drop a l k HNO.out HKS.out hp)
        rw [decide_eq_true hp] at HE
        clear hp
        go_wp2_with fail
        refine HE.out.mono ?_
        rintro _ w2 ⟨rfl, b2⟩
        have HG2 := hide (HGR.out.trans b2)
        clear b2
        go_wp2_with fail
        go_ret
        exact ⟨ret_int HVE.out.symm, HG2.out⟩
      · have HN2 : Hid (NoEnd a (l.take (k + 1))) := hide (fun b hb => by
          rw [HTK.out] at hb
          rcases List.mem_append.1 hb with hb | hb
          · exact HNO.out b hb
          · rw [List.mem_singleton] at hb; subst hb; exact hp)
        rw [decide_eq_false hp] at HE
        clear hp
        go_wp2_with fail
        refine HE.out.mono ?_
        rintro _ w2 ⟨rfl, b2⟩
        have HG2 := hide (HGR.out.trans b2)
        clear b2 c0 c1 c2 c3 c4 c5 c6 c7 c8
        have hnl : n ≤ 1000000 := HNL.out
        have hlt2 : k < n := HLT.out
        go_wp2_with fail
        refine ⟨⟨k + 1, by omega, by go_num, HN2, HG2⟩, ?_⟩
        simp [intOf]; omega
    · have hkn : k = n := by omega
      have HVE : Hid (V = -1) := by
        rw [← HV.out]
        refine hide (endI_none a l (fun b hb => hno.out b ?_))
        rw [hkn, HN.out, List.take_length]
        exact hb
      have HG2 := hide hgr.out
      have k1 : ¬ (k : Int) < (n : Nat) := by omega
      clear hno hgr hkn
      go_wp2_with fail
      go_ret
      exact ⟨ret_int HVE.out.symm, HG2.out⟩
end Go.Proofs.YtfkgjbdeicggaaaGreat
