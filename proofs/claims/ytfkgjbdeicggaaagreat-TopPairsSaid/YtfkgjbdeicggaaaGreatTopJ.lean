/-
  The sort of the borders.
-/
import Derived.Test.YtfkgjbdeicggaaaGreatTopI
import Derived.Test.YtfkgjbdeicggaaaGreatTopB
namespace Go.Proofs.YtfkgjbdeicggaaaGreat
open Go.RowKit Go.Proofs.PlLex Go.Proofs.PlNet Go.Proofs.PlMap Go.Proofs.PlGeom Go.Proofs.PlTop

/-- A value that is a slice. -/
def isSl (v : Value) : Prop := ∃ A n c, v = .slice A n c
theorem StS.isSl {W : World} {v : Value} {l : List BA} (h : StS W v l) : isSl v := by
  obtain ⟨A, c, rfl, _⟩ := h
  exact ⟨_, _, _, rfl⟩
set_option maxRecDepth 100000 in
set_option maxHeartbeats 8000000 in
theorem less_lines (x y : Rw Pr) (w : World) (hx : isSl x.2.1) (hy : isSl y.2.1) : Calls Tryz.prog 87 #[.agg (encL x).toArray, .agg (encL y).toArray] w fun e w' => e = .returned (.int .i64 (cfP x.1 y.1)) ∧ Grows w w' := by
  obtain ⟨⟨a, b⟩, v, ids⟩ := x
  obtain ⟨⟨c, d⟩, u, ids2⟩ := y
  obtain ⟨A1, n1, c1, rfl⟩ := hx
  obtain ⟨A2, n2, c2, rfl⟩ := hy
  simp only at *
  obtain ⟨w2, hw2⟩ : ∃ w2, (w.alloc (.cells (encL ((a, b), (Value.slice A1 n1 c1), ids)).toArray 91)).alloc (.cells (encL ((c, d), (Value.slice A2 n2 c2), ids2)).toArray 91) = w2 := ⟨_, rfl⟩
  have HG : Hid (Grows w w2) := hide (by rw [← hw2]; exact ((Grows.refl _).alloc _).alloc _)
  have hs : w2.heap.size = w.heap.size + 2 := by rw [← hw2]; simp
  have h3 := heap_alloc_new w2 (.cells #[.string a, .string c, .string b, .string d] 9)
  rw [hs] at h3
  have HC := hide (compare_four (w.heap.size + 2) 4 (a, b) (c, d) (w2.alloc (.cells #[.string a, .string c, .string b, .string d] 9)) (cell_of_row _ _ 0 _ _ _ h3) (cell_of_row _ _ 1 _ _ _ h3) (cell_of_row _ _ 2 _ _ _ h3) (cell_of_row _ _ 3 _ _ _ h3))
  rw [← hw2] at HC HG
  unfold encL at HC HG ⊢
  clear hw2 hs h3
  generalize cfP (a, b) (c, d) = R at *
  go_enter Tryz.func87, Tryz.ntmps87
  go_wp2_with fail
  refine HC.out.mono ?_
  rintro _ w3 ⟨rfl, hg⟩
  have HG3 := hide ((HG.out.alloc _).trans hg)
  clear HC hg HG
  go_wp2_with fail
  go_ret
  exact ⟨rfl, HG3.out⟩
instance : Inhabited {x : Rw Pr // isSl x.2.1} := ⟨⟨((⟨#[]⟩, ⟨#[]⟩), .slice none 0 0, []), _, _, _, rfl⟩⟩
theorem swoP : Sort.SWO (ltOf fun x y : {x : Rw Pr // isSl x.2.1} => cfP x.1.1 y.1.1) := by
  refine ⟨fun x => ?_, fun x y z h1 h2 => ?_, fun x y z h1 h2 => ?_⟩
  · unfold ltOf
    rw [decide_eq_false_iff_not, cfP_lt]
    exact ltP_irrefl _
  · unfold ltOf at *
    rw [decide_eq_true_eq, cfP_lt] at *
    exact ltP_trans h1 h2
  · unfold ltOf at *
    rw [decide_eq_false_iff_not, cfP_lt] at *
    intro h3
    by_cases e : y.1.1 = x.1.1
    · rw [← e] at h3
      exact h2 h3
    · exact h2 (ltP_trans (ltP_tri h1 e) h3)
theorem sort_lines (B : Nat) (l : List (Rw Pr)) (v : Value) (W : World) (h : W.ownsRow B 91 3 v l.length (l.flatMap encL)) (hix : ∀ x ∈ l, isSl x.2.1) (hlen : l.length ≤ 1000000) :
    Calls Tryz.prog 86 #[v, .func (Fn.func 87) #[] #[]] W fun e w' => e = .returned (.tuple #[]) ∧ ∃ l' : List (Rw Pr), l'.Perm l ∧ l'.Pairwise (fun a b => ¬ ltP b.1 a.1) ∧ w'.ownsRow B 91 3 v l'.length (l'.flatMap encL) ∧ W.grownBy w' v.ownBlock := by
  rcases h.2 with ⟨rfl, h0⟩ | ⟨g, cap, cur, rfl, hB, hb, _⟩
  · have hl : l = [] := List.length_eq_zero_iff.1 h0
    subst hl
    refine (AnyF.slices_SortFunc_none Tryz.sortLines none 0 (.func (Fn.func 87) #[] #[]) W).mono ?_
    rintro e w' ⟨rfl, rfl⟩
    exact ⟨rfl, [], List.Perm.refl _, List.Pairwise.nil, h, ⟨rfl, rfl, rfl, Nat.le_refl _, fun _ _ _ => rfl⟩⟩
  · have hsz := subA_size l hix
    have hfl : (subA l hix).toList.flatMap (fun x : {x : Rw Pr // isSl x.2.1} => encL x.1) = l.flatMap encL := by rw [sub_flat, subA_val]
    rw [← hsz, ← hfl] at h
    obtain ⟨hg, hH, hw⟩ := sort_row (enc := fun x : {x : Rw Pr // isSl x.2.1} => encL x.1) (k := 3) (fun _ => rfl) (subA l hix) h
    have eg : ∀ args w, (callFunc 87 args).run Tryz.prog w = .ok (.enter 87 args) w := enters_of Tryz.func87 (by kernel_rfl) rfl
    have hcon := AnyQ.slices_SortFunc Tryz.sortLines 3 Tryz.isAgg91 Tryz.sizeOf91 (fun x : {x : Rw Pr // isSl x.2.1} => encL x.1) (fun _ => rfl)
      (fun x v hv => by
        obtain ⟨x, A, n, c, hx⟩ := x
        simp only [encL, List.mem_cons, List.not_mem_nil, or_false] at hv
        rcases hv with rfl | rfl | rfl
        · rfl
        · rfl
        · rw [hx]; rfl)
      (fun x y => cfP x.1.1 y.1.1) swoP 87 #[] g 0 cap (subA l hix) W eg (fun _ _ _ _ x y => less_lines x.1 y.1 _ x.2 y.2) hH hg (by rw [hsz]; omega)
    rw [hsz] at hcon
    refine hcon.mono ?_
    rintro e w' ⟨rfl, d', n, os, hp, hs, rfl⟩
    rw [← hsz] at hp hs
    obtain ⟨hd, hpm⟩ := perm_all hp
    obtain ⟨ho, hgr⟩ := hw d' n os hd
    have hl' : (d'.toList.map Subtype.val).length = l.length := by rw [List.length_map, Array.length_toList, hd, hsz]
    refine ⟨rfl, d'.toList.map Subtype.val, by rw [subA_val] at hpm; exact hpm, (sorted_all (cf := fun x y => cfP x.1 y.1) hd hs).imp (fun h1 h2 => h1 ((cfP_lt _ _).2 h2)), ?_, hgr⟩
    rw [sub_flat, hsz] at ho
    rw [hl']
    exact ho
end Go.Proofs.YtfkgjbdeicggaaaGreat
