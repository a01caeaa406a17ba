/-
  Lists of texts compared, walked; the sort of the violations.
-/
import Derived.Test.YtfkgjbdeicggaaaGreatTopJ
import Derived.Test.YtfkgjbdeicggaaaGreatTopM
namespace Go.Proofs.YtfkgjbdeicggaaaGreat
open Go.RowKit Go.Proofs.PlLex Go.Proofs.PlNet Go.Proofs.PlMap Go.Proofs.PlGeom Go.Proofs.PlTop

/-- How lists of texts are compared. -/
def cmpLs : List BA → List BA → Int
  | [], [] => 0
  | [], _ :: _ => -1
  | _ :: _, [] => 1
  | a :: l, b :: m => if cmpS a b = 0 then cmpLs l m else cmpS a b
theorem cmpLs_cons (a b : BA) (l m : List BA) : cmpLs (a :: l) (b :: m) = if cmpS a b = 0 then cmpLs l m else cmpS a b := rfl
theorem cmpS_self (a : BA) : cmpS a a = 0 := (cmpS_zero a a).2 rfl
theorem cmpS_rev (a b : BA) : 0 < cmpS a b ↔ cmpS b a < 0 := by
  unfold cmpS
  cases h1 : ltB a b with
  | true =>
    have h2 : ltB b a = false := (less_asymm h1).1
    rw [h2]; simp
  | false => cases h2 : ltB b a <;> simp
theorem cmpLs_zero (l m : List BA) : cmpLs l m = 0 ↔ l = m := by
  induction l generalizing m with
  | nil => cases m <;> simp [cmpLs]
  | cons a l ih =>
    cases m with
    | nil => simp [cmpLs]
    | cons b m =>
      rw [cmpLs_cons]
      by_cases h : cmpS a b = 0
      · rw [if_pos h, ih, (cmpS_zero a b).1 h]; simp
      · rw [if_neg h]
        have : a ≠ b := fun e => h ((cmpS_zero a b).2 e)
        simp [h, this]
theorem cmpLs_trans {l m k : List BA} (h1 : cmpLs l m < 0) (h2 : cmpLs m k < 0) : cmpLs l k < 0 := by
  induction l generalizing m k with
  | nil => cases k with
    | nil => cases m <;> simp [cmpLs] at h1 h2
    | cons c k => simp [cmpLs]
  | cons a l ih =>
    cases m with
    | nil => simp [cmpLs] at h1
    | cons b m =>
      cases k with
      | nil => simp [cmpLs] at h2
      | cons c k =>
        rw [cmpLs_cons] at *
        by_cases e1 : cmpS a b = 0
        · rw [if_pos e1] at h1
          obtain rfl := (cmpS_zero a b).1 e1
          by_cases e2 : cmpS a c = 0
          · rw [if_pos e2] at h2 ⊢
            exact ih h1 h2
          · rw [if_neg e2] at h2 ⊢
            exact h2
        · rw [if_neg e1] at h1
          by_cases e2 : cmpS b c = 0
          · obtain rfl := (cmpS_zero b c).1 e2
            rw [if_neg e1]
            exact h1
          · rw [if_neg e2] at h2
            have h3 : cmpS a c < 0 := (cmpS_lt a c).2 (ltB_trans ((cmpS_lt a b).1 h1) ((cmpS_lt b c).1 h2))
            rw [if_neg (by omega)]
            exact h3
theorem cmpLs_tri {l m : List BA} (h : ¬ cmpLs l m < 0) (hne : l ≠ m) : cmpLs m l < 0 := by
  induction l generalizing m with
  | nil => cases m with
    | nil => exact absurd rfl hne
    | cons b m => simp [cmpLs] at h
  | cons a l ih =>
    cases m with
    | nil => simp [cmpLs]
    | cons b m =>
      rw [cmpLs_cons] at *
      by_cases e : cmpS a b = 0
      · rw [if_pos e] at h
        obtain rfl := (cmpS_zero a b).1 e
        rw [if_pos (cmpS_self a)]
        exact ih h (fun e2 => hne (by rw [e2]))
      · rw [if_neg e] at h
        have h2 : cmpS b a < 0 := (cmpS_rev a b).1 (by omega)
        rw [if_neg (by omega)]
        exact h2
theorem swoL {β : Type} (f : β → List BA) : Sort.SWO (ltOf fun x y : β => cmpLs (f x) (f y)) := by
  refine ⟨fun x => ?_, fun x y z h1 h2 => ?_, fun x y z h1 h2 => ?_⟩
  · unfold ltOf
    rw [decide_eq_false_iff_not]
    show ¬ cmpLs (f x) (f x) < 0
    rw [(cmpLs_zero _ _).2 rfl]
    omega
  · unfold ltOf at *
    rw [decide_eq_true_eq] at *
    exact cmpLs_trans h1 h2
  · unfold ltOf at *
    rw [decide_eq_false_iff_not] at *
    change ¬ cmpLs (f x) (f y) < 0 at h1
    change ¬ cmpLs (f y) (f z) < 0 at h2
    show ¬ cmpLs (f x) (f z) < 0
    intro h3
    by_cases e : f y = f x
    · rw [← e] at h3; exact h2 h3
    · exact h2 (cmpLs_trans (cmpLs_tri h1 (fun e2 => e e2.symm)) h3)
theorem cmpLs_drop (l m : List BA) (k : Nat) (h1 : k < l.length) (h2 : k < m.length) : cmpLs (l.drop k) (m.drop k) = if cmpS l[k] m[k] = 0 then cmpLs (l.drop (k + 1)) (m.drop (k + 1)) else cmpS l[k] m[k] := by
  rw [List.drop_eq_getElem_cons h1, List.drop_eq_getElem_cons h2]
  rfl
set_option maxRecDepth 100000 in
set_option maxHeartbeats 8000000 in
theorem compareL_any (l m : List BA) (v u : Value) (w : World) (hv : StS w v l) (hu : StS w u m) (hl : l.length ≤ 100000) (hm : m.length ≤ 100000) :
    Calls Tryz.prog 39 #[v, u] w fun e w' => e = .returned (.int .i64 (cmpLs l m)) ∧ w = w' := by
  obtain ⟨R, hR⟩ : ∃ R, cmpLs l m = R := ⟨_, rfl⟩
  rw [hR]
  obtain ⟨A, c, rfl, _, hA⟩ := hv
  obtain ⟨B, d, rfl, _, hB⟩ := hu
  have HA := hide hA
  have HB := hide hB
  have HR : Hid (cmpLs (l.drop 0) (m.drop 0) = R) := hide hR
  clear hA hB hR
  go_enter Tryz.func39, Tryz.ntmps39
  go_wp2_with fail
  go_loopw [11] (fun i wr => ∃ (k : Nat), k ≤ l.length ∧ k ≤ m.length ∧ i = .int .i64 k ∧ wr = w ∧ Hid (cmpLs (l.drop k) (m.drop k) = R)) (fun i _ => l.length - (intOf i).toNat)
  case atStart => exact ⟨0, Nat.zero_le _, Nat.zero_le _, rfl, rfl, HR⟩
  case round =>
    clear HR
    obtain ⟨k, hk, hk2, rfl, rfl, hr⟩ := hrel
    by_cases hlt : k < l.length
    · obtain ⟨g, o, rfl, hg, hp⟩ := HA.out.resolve_left (by rintro rfl; simp at hlt)
      have c0 := hp k _ (List.getElem?_eq_getElem hlt)
      have k0 : (0 : Int) ≤ (k : Nat) := by omega
      have k1 : ((k : Nat) : Int) < (l.length : Nat) := by omega
      by_cases hlt2 : k < m.length
      · obtain ⟨g2, o2, rfl, hg2, hp2⟩ := HB.out.resolve_left (by rintro rfl; simp at hlt2)
        have c1 := hp2 k _ (List.getElem?_eq_getElem hlt2)
        have k2 : ((k : Nat) : Int) < (m.length : Nat) := by omega
        have k3 : ¬ (m.length : Nat) ≤ ((k : Nat) : Int) := by omega
        have hr2 := hr.out
        rw [cmpLs_drop l m k hlt hlt2] at hr2
        have HC := hide (fun W => (cmps_any l[k] m[k] W).mono (fun _ _ h => (⟨h.1, h.2.symm⟩ : _ ∧ _)))
        generalize l[k] = a at *
        generalize m[k] = b at *
        generalize cmpS a b = x at *
        have HL := hide (show k + 1 ≤ l.length by omega)
        have HL2 := hide (show k + 1 ≤ m.length by omega)
        have HMS := hide (show l.length - (k + 1) < l.length - k from by omega)
        by_cases hx : x = 0
        · subst hx
          have HR2 := hide (show cmpLs (l.drop (k + 1)) (m.drop (k + 1)) = R by rw [← hr2]; rfl)
          clear hr hr2 hp hp2 hk hk2
          go_wp2_with (go_at_call 92; refine (HC.out _).mono ?_; rintro _ _ ⟨rfl, rfl⟩)
          refine ⟨⟨k + 1, HL.out, HL2.out, by go_num, trivial, HR2⟩, ?_⟩
          have := HMS.out
          simp [intOf]; omega
        · have e1 : (x == 0) = false := beq_eq_false_iff_ne.2 hx
          have e2 : (x != 0) = true := by rw [bne, e1]; rfl
          rw [if_neg hx] at hr2
          subst hr2
          clear hr hp hp2 hx hk hk2
          go_wp2_with (go_at_call 92; refine (HC.out _).mono ?_; rintro _ _ ⟨rfl, rfl⟩)
          go_ret
          exact ⟨rfl, rfl⟩
      · obtain rfl : k = m.length := by omega
        have k3 : ((m.length : Nat) : Int) ≤ (m.length : Nat) := by omega
        have hR2 : R = 1 := by
          have := hr.out
          rw [List.drop_eq_getElem_cons hlt, List.drop_length] at this
          rw [← this]; rfl
        clear hr
        subst hR2
        go_wp2_with fail
        go_ret
        exact ⟨rfl, rfl⟩
    · obtain rfl : k = l.length := by omega
      have k1 : ¬ ((l.length : Nat) : Int) < (l.length : Nat) := by omega
      by_cases hlt2 : l.length < m.length
      · have k3 : ((l.length : Nat) : Int) < (m.length : Nat) := by omega
        have hR2 : R = -1 := by
          have := hr.out
          rw [List.drop_eq_getElem_cons hlt2, List.drop_length] at this
          rw [← this]; rfl
        clear hr
        subst hR2
        go_wp2_with fail
        go_ret
        exact ⟨rfl, rfl⟩
      · have e : m.length = l.length := by omega
        have k3 : ¬ ((l.length : Nat) : Int) < (m.length : Nat) := by omega
        have hR2 : R = 0 := by
          have := hr.out
          rw [List.drop_length, List.drop_eq_nil_of_le (by omega)] at this
          rw [← this]; rfl
        clear hr e
        subst hR2
        go_wp2_with fail
        go_ret
        exact ⟨rfl, rfl⟩
/-- The texts of a violation, in an array of two. -/
def IdS (W : World) (v : Value) (L : List BA) : Prop := ∃ g a b c, v = .slice (some ⟨g, 0, none⟩) L.length c ∧ W.heap[g]? = some (.cells #[.string a, .string b] 87 (0, 0)) ∧ (L = [a, b] ∨ L = [a]) ∧ L.length ≤ c
theorem IdS.kept {W W' : World} {v : Value} {L : List BA} {row : Option Nat} (h : IdS W v L) (hg : W.grownBy W' row) (hr : ∀ r, row = some r → ∀ a b : BA, W.heap[r]? ≠ some (.cells #[.string a, .string b] 87 (0, 0))) : IdS W' v L := by
  obtain ⟨g, a, b, c, h1, h2, h3, h4⟩ := h
  exact ⟨g, a, b, c, h1, (hg.block g (lt_of_block h2) (fun e => hr g e.symm a b h2)).trans h2, h3, h4⟩
theorem IdS.fresh {W W' : World} {v : Value} {L : List BA} {r : Nat} (h : IdS W v L) (hg : W.grownBy W' (some r)) (hr : W.heap.size ≤ r) : IdS W' v L := by
  obtain ⟨g, a, b, c, h1, h2, h3, h4⟩ := h
  exact ⟨g, a, b, c, h1, (hg.block g (lt_of_block h2) (fun e => by have := lt_of_block h2; have := Option.some.inj e; omega)).trans h2, h3, h4⟩
theorem IdS.sts {W : World} {v : Value} {L : List BA} (h : IdS W v L) : StS W v L := by
  obtain ⟨g, a, b, c, h1, h2, h3, h4⟩ := h
  have e0 := cell_of_row W g 0 _ _ _ h2
  have e1 := cell_of_row W g 1 _ _ _ h2
  refine ⟨_, c, h1, h4, .inr ⟨g, 0, rfl, lt_of_block h2, fun i s hi => ?_⟩⟩
  rcases h3 with rfl | rfl
  · rcases i with _ | _ | i
    · simp at hi; rw [← hi]; exact e0
    · simp at hi; rw [← hi]; exact e1
    · simp at hi
  · rcases i with _ | i
    · simp at hi; rw [← hi]; exact e0
    · simp at hi
theorem IdS.slice {W : World} {v : Value} {L : List BA} (h : IdS W v L) : ∃ A n c, v = .slice A n c := by
  obtain ⟨g, a, b, c, h1, _⟩ := h
  exact ⟨_, _, _, h1⟩
theorem IdS.few {W : World} {v : Value} {L : List BA} (h : IdS W v L) : L.length ≤ 2 := by
  obtain ⟨g, a, b, c, _, _, h3, _⟩ := h
  rcases h3 with rfl | rfl <;> simp
abbrev Vl := Value × List BA
/-- The cells of a violation. -/
def encV (x : Vl) : List Value := [.string ⟨#[]⟩, .int .i64 2, x.1]
theorem encV_len (x : Vl) : (encV x).length = 3 := rfl
set_option maxRecDepth 100000 in
set_option maxHeartbeats 8000000 in
theorem less_bad (x y : Vl) (w : World) (hx : IdS w x.1 x.2) (hy : IdS w y.1 y.2) : Calls Tryz.prog 38 #[.agg (encV x).toArray, .agg (encV y).toArray] w fun e w' => e = .returned (.int .i64 (cmpLs x.2 y.2)) ∧ Grows w w' := by
  have hsx := hx.sts
  have hsy := hy.sts
  have hfx := hx.few
  have hfy := hy.few
  obtain ⟨v, L⟩ := x
  obtain ⟨u, M⟩ := y
  obtain ⟨A1, n1, c1, rfl⟩ := hx.slice
  obtain ⟨A2, n2, c2, rfl⟩ := hy.slice
  simp only at *
  obtain ⟨w2, hw2⟩ : ∃ w2, (w.alloc (.cells (encV (.slice A1 n1 c1, L)).toArray 101)).alloc (.cells (encV (.slice A2 n2 c2, M)).toArray 101) = w2 := ⟨_, rfl⟩
  have HG : Hid (Grows w w2) := hide (by rw [← hw2]; exact ((Grows.refl _).alloc _).alloc _)
  have HC := hide (compareL_any L M _ _ w2 (hsx.below HG.out.below) (hsy.below HG.out.below) (by omega) (by omega))
  rw [← hw2] at HC HG
  unfold encV at HC HG ⊢
  clear hw2 hsx hsy hx hy hfx hfy
  generalize cmpLs L M = R at *
  go_enter Tryz.func38, Tryz.ntmps38
  go_wp2_with fail
  refine HC.out.mono ?_
  rintro _ w3 ⟨rfl, rfl⟩
  clear HC
  go_wp2_with fail
  go_ret
  exact ⟨rfl, HG.out⟩
theorem id_one (W : World) : IdS (W.alloc (.cells #[.string ⟨#[]⟩, .string ⟨#[]⟩] 87)) (.slice (some ⟨W.heap.size, 0, none⟩) 1 1) [⟨#[]⟩] := ⟨W.heap.size, ⟨#[]⟩, ⟨#[]⟩, 1, rfl, heap_alloc_new _ _, .inr rfl, Nat.le_refl _⟩
theorem sort_bad (B : Nat) (l : List Vl) (v : Value) (W : World) (h : W.ownsRow B 101 3 v l.length (l.flatMap encV)) (hix : ∀ x ∈ l, IdS W x.1 x.2) (hlen : l.length ≤ 1000000000) :
    Calls Tryz.prog 37 #[v, .func (Fn.func 38) #[] #[]] W fun e w' => e = .returned (.tuple #[]) ∧ W.grownBy w' v.ownBlock := by
  rcases h.2 with ⟨rfl, h0⟩ | ⟨g, cap, cur, rfl, hB, hb, _⟩
  · have hl : l = [] := List.length_eq_zero_iff.1 h0
    subst hl
    refine (AnyF.slices_SortFunc_none Tryz.sortBad none 0 (.func (Fn.func 38) #[] #[]) W).mono ?_
    rintro e w' ⟨rfl, rfl⟩
    exact ⟨rfl, ⟨rfl, rfl, rfl, Nat.le_refl _, fun _ _ _ => rfl⟩⟩
  · rcases l with _ | ⟨x0, l0⟩
    · refine (AnyF.slices_SortFunc_none Tryz.sortBad _ _ (.func (Fn.func 38) #[] #[]) W).mono ?_
      rintro e w' ⟨rfl, rfl⟩
      exact ⟨rfl, ⟨rfl, rfl, rfl, Nat.le_refl _, fun _ _ _ => rfl⟩⟩
    obtain ⟨l, hl⟩ : ∃ l, x0 :: l0 = l := ⟨_, rfl⟩
    have hin : IdS W x0.1 x0.2 := hix x0 (List.mem_cons_self ..)
    rw [hl] at h hix hlen ⊢
    letI : Inhabited {x : Vl // IdS W x.1 x.2} := ⟨⟨x0, hin⟩⟩
    have hsz := subA_size l hix
    have hfl : (subA l hix).toList.flatMap (fun x : {x : Vl // IdS W x.1 x.2} => encV x.1) = l.flatMap encV := by rw [sub_flat, subA_val]
    rw [← hsz, ← hfl] at h
    obtain ⟨hg, hH, hw⟩ := sort_row (enc := fun x : {x : Vl // IdS W x.1 x.2} => encV x.1) (k := 3) (fun _ => rfl) (subA l hix) h
    have eg : ∀ args w, (callFunc 38 args).run Tryz.prog w = .ok (.enter 38 args) w := enters_of Tryz.func38 (by kernel_rfl) rfl
    have hno : ∀ r, some g = some r → ∀ a b : BA, W.heap[r]? ≠ some (.cells #[.string a, .string b] 87 (0, 0)) := fun r e a b hh => by
      cases e
      rw [hb] at hh
      cases hh
    have hcon := AnyQ.slices_SortFunc Tryz.sortBad 3 Tryz.isAgg101 Tryz.sizeOf101 (fun x : {x : Vl // IdS W x.1 x.2} => encV x.1) (fun _ => rfl)
      (fun x v hv => by
        obtain ⟨⟨v0, L⟩, hx⟩ := x
        obtain ⟨A, n, c, hx⟩ := hx.slice
        simp only [encV, List.mem_cons, List.not_mem_nil, or_false] at hv
        rcases hv with rfl | rfl | h3
        · rfl
        · rfl
        · have h4 : v = Value.slice A n c := h3.trans hx
          rw [h4]; rfl)
      (fun x y => cmpLs x.1.2 y.1.2) (swoL fun x : {x : Vl // IdS W x.1 x.2} => x.1.2) 38 #[] g 0 cap (subA l hix) W eg
      (fun m os dk hdk x y => less_bad x.1 y.1 _ (x.2.kept (hw dk m os hdk).2 hno) (y.2.kept (hw dk m os hdk).2 hno)) hH hg (by rw [hsz]; omega)
    rw [hsz] at hcon
    refine hcon.mono ?_
    rintro e w' ⟨rfl, d', n, os, hp, hs, rfl⟩
    rw [← hsz] at hp hs
    obtain ⟨hd, hpm⟩ := perm_all hp
    exact ⟨rfl, (hw d' n os hd).2⟩
/-- Two texts made one, if they are equal. -/
theorem compact_two (g : Nat) (a b : BA) (w : World) (h : w.heap[g]? = some (.cells #[.string a, .string b] 87 (0, 0))) :
    Calls Tryz.prog 36 #[.slice (some ⟨g, 0, none⟩) 2 2] w fun e w' => ∃ v L, e = .returned v ∧ IdS w' v L ∧ w.grownBy w' (some g) := by
  have c0 := cell_of_row w g 0 _ _ _ h
  have c1 := cell_of_row w g 1 _ _ _ h
  have hcon := Tryz.slices_Compact_string_cells g 0 2 2 (fun i => if i = 0 then a else b) w (by omega) (Nat.le_refl _) (fun i hi => by
    rcases (show i = 0 ∨ i = 1 by omega) with rfl | rfl
    · exact c0
    · exact c1) (fun j hj => frozen_of_row w g (0 + j) _ _ h)
  refine hcon.mono ?_
  rintro e w' ⟨rfl, q, rfl⟩
  have hc : (Lib.strsOf (fun i => if i = 0 then a else b) 2) = [a.data.toList, b.data.toList] := rfl
  rw [hc]
  have hone : ∀ (W : World) (i : Nat) (u : Value), W.grownBy (W.setCell ⟨g, i, none⟩ u) (some g) := fun W i u => ⟨rfl, rfl, rfl, by simp, fun k _ hne => Below.heap_setCell W ⟨g, i, none⟩ u k (fun e => hne (by rw [e]))⟩
  have hgb : ∀ (x y : Value), w.grownBy ((w.drewN q).setCells g 0 [x, y]) (some g) := fun x y => gby_trans (gby_trans (show w.grownBy (w.drewN q) (some g) from ⟨rfl, rfl, rfl, Nat.le_refl _, fun _ _ _ => rfl⟩) (hone (w.drewN q) 0 x)) (hone _ 1 y)
  have hblk : ∀ (x y : Value), ((w.drewN q).setCells g 0 [x, y]).heap[g]? = some (.cells #[x, y] 87 (0, 0)) := fun x y => by
    show (((w.drewN q).setCell ⟨g, 0, none⟩ x).setCell ⟨g, 0 + 1, none⟩ y).heap[g]? = _
    rw [Sort.setCell_eq, Sort.setCell_eq]
    simp [Sort.mapBlock, Array.getElem?_modify, h, Sort.onCells]
  by_cases e : a.data.toList = b.data.toList
  · have h1 : Lib.compact [a.data.toList, b.data.toList] = [a.data.toList] := by
      simp [Lib.compact, Lib.compactUpTo, List.range, List.range.loop, Lib.keeps, e]
    rw [h1]
    refine ⟨_, [a], rfl, ⟨g, a, ⟨#[]⟩, 2, rfl, hblk _ _, .inr rfl, by simp⟩, hgb _ _⟩
  · have h1 : Lib.compact [a.data.toList, b.data.toList] = [a.data.toList, b.data.toList] := by
      have e2 : ¬ b.data.toList = a.data.toList := fun e2 => e e2.symm
      simp [Lib.compact, Lib.compactUpTo, List.range, List.range.loop, Lib.keeps, e2]
    rw [h1]
    refine ⟨_, [a, b], rfl, ⟨g, a, b, 2, rfl, hblk _ _, .inl rfl, by simp⟩, hgb _ _⟩
end Go.Proofs.YtfkgjbdeicggaaaGreat
