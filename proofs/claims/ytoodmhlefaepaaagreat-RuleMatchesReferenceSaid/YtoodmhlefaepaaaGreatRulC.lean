/-
  The parser's rule, walked.
-/
import Derived.Test.YtoodmhlefaepaaaGreatRulB
import Derived.Deep.DeepCutAuto
namespace Go.Proofs.YtoodmhlefaepaaaGreat
open Go.RowKit Go.Proofs.PlLex Go.Proofs.PlRule

def vRl (x : Rl) (v : Value) : Value := .agg #[.bool x.strict, .string x.area, .int .i64 x.kind, .string x.ik, .string x.iv, .int .i64 x.op, .string x.key, v]
def zeroA : Array Value := #[.bool false, .string ⟨#[]⟩, .int .i64 0, .string ⟨#[]⟩, .string ⟨#[]⟩, .int .i64 0, .string ⟨#[]⟩, .slice none 0 0]
/-- The parser within a rule: the result's variable, the rule's, which holds cs. -/
structure RuI (w : World) (b n : Nat) (r : List Tok) (bx : Nat) (cs : Array Value) (W : World) : Prop where
  prs : PrsI b n r W
  grown : w.grownBy W (some b)
  res : W.heap[w.heap.size]? = some (.cells zeroA 37 (0, 0))
  var : W.heap[bx]? = some (.cells cs 37 (0, 0))
  ltb : b < w.heap.size
  ltx : w.heap.size < bx
theorem RuI.step {w : World} {b n : Nat} {r r' : List Tok} {bx : Nat} {cs : Array Value} {W W' : World} (h : RuI w b n r bx cs W) (hp : PrsI b n r' W') (hg : W.grownBy W' (some b)) : RuI w b n r' bx cs W' := by
  have h1 := h.res
  have hb := h.ltb
  have hx := h.ltx
  exact ⟨hp, grown_more h.grown hg (fun x hx => .inr hx), (hg.block _ (lt_of_blk h1) (fun e => by cases e; omega)).trans h1, (hg.block _ (lt_of_blk h.var) (fun e => by cases e; omega)).trans h.var, hb, hx⟩
theorem set_blk {w : World} {g : Nat} {cs : Array Value} {t : TypeId} (h : w.heap[g]? = some (.cells cs t (0, 0))) (j : Nat) (v : Value) : (w.setCell ⟨g, j, none⟩ v).heap[g]? = some (.cells (cs.setIfInBounds j v) t (0, 0)) := by
  have hlt := lt_of_blk h
  have h' : w.heap[g] = .cells cs t (0, 0) := by simpa [Array.getElem?_eq_getElem hlt] using h
  show (w.heap.modify g _)[g]? = _
  rw [Array.getElem?_eq_getElem (by simpa using hlt), Array.getElem_modify_self, h']
  rfl
theorem set_grown (w : World) (g j : Nat) (v : Value) : w.grownBy (w.setCell ⟨g, j, none⟩ v) (some g) :=
  ⟨rfl, rfl, rfl, by simp [World.setCell], fun i hi hr => by
    have : g ≠ i := fun e => hr (by rw [e])
    simp [World.setCell, Array.getElem?_modify, this]⟩
theorem RuI.set {w : World} {b n : Nat} {r : List Tok} {bx : Nat} {cs : Array Value} {W : World} (h : RuI w b n r bx cs W) (j : Nat) (v : Value) : RuI w b n r bx (cs.setIfInBounds j v) (W.setCell ⟨bx, j, none⟩ v) := by
  have h1 := h.res
  have hb := h.ltb
  have hx := h.ltx
  have hg := set_grown W bx j v
  exact ⟨h.prs.kept hg (fun x e => by cases e; omega), grown_more h.grown hg (fun x e => by cases e; exact .inl (by omega)), (hg.block _ (lt_of_blk h1) (fun e => by cases e; omega)).trans h1, set_blk h.var j v, hb, hx⟩
theorem RuI.alloc {w : World} {b n : Nat} {r : List Tok} {bx : Nat} {cs : Array Value} {W : World} (h : RuI w b n r bx cs W) (o : Obj) : RuI w b n r bx cs (W.alloc o) := by
  have hb : Below W.heap.size W (W.alloc o) := (Below.refl _ _).alloc (Nat.le_refl _) _
  exact h.step (h.prs.kept (below_grown hb none) (fun x hx => by cases hx)) (below_grown hb _)
theorem RuI.cell {w : World} {b n : Nat} {r : List Tok} {bx : Nat} {cs : Array Value} {W : World} (h : RuI w b n r bx cs W) (j : Nat) : W.cell? ⟨bx, j, none⟩ = cs[j]? := by
  have := h.var
  simp [World.cell?, this]
theorem RuI.frz {w : World} {b n : Nat} {r : List Tok} {bx : Nat} {cs : Array Value} {W : World} (h : RuI w b n r bx cs W) (j : Nat) : W.frozen? ⟨bx, j, none⟩ = false := by
  have := h.var
  simp [World.frozen?, this]
theorem blk8 {w : World} {g : Nat} {a b c d e f p q : Value} {t : TypeId} (h : w.heap[g]? = some (.cells #[a, b, c, d, e, f, p, q] t (0, 0))) :
    w.cell? ⟨g, 0, none⟩ = some a ∧ w.cell? ⟨g, 1, none⟩ = some b ∧ w.cell? ⟨g, 2, none⟩ = some c ∧ w.cell? ⟨g, 3, none⟩ = some d ∧ w.cell? ⟨g, 4, none⟩ = some e ∧ w.cell? ⟨g, 5, none⟩ = some f ∧ w.cell? ⟨g, 6, none⟩ = some p ∧ w.cell? ⟨g, 7, none⟩ = some q :=
  ⟨cell_of_row w g 0 _ t _ h, cell_of_row w g 1 _ t _ h, cell_of_row w g 2 _ t _ h, cell_of_row w g 3 _ t _ h, cell_of_row w g 4 _ t _ h, cell_of_row w g 5 _ t _ h, cell_of_row w g 6 _ t _ h, cell_of_row w g 7 _ t _ h⟩
theorem RuI.frz0 {w : World} {b n : Nat} {r : List Tok} {bx : Nat} {cs : Array Value} {W : World} (h : RuI w b n r bx cs W) : ∀ j, W.frozen? ⟨w.heap.size, j, none⟩ = false := fun j => by
  have := h.res
  simp [World.frozen?, this]
theorem set8 {w : World} {g : Nat} {cs : Array Value} (hc : cs.size = 8) {t : TypeId} (h : w.heap[g]? = some (.cells cs t (0, 0))) (a b c d e f p q : Value) :
    ((((((((w.setCell ⟨g, 0, none⟩ a).setCell ⟨g, 1, none⟩ b).setCell ⟨g, 2, none⟩ c).setCell ⟨g, 3, none⟩ d).setCell ⟨g, 4, none⟩ e).setCell ⟨g, 5, none⟩ f).setCell ⟨g, 6, none⟩ p).setCell ⟨g, 7, none⟩ q).heap[g]? = some (.cells #[a, b, c, d, e, f, p, q] t (0, 0)) ∧
    w.grownBy ((((((((w.setCell ⟨g, 0, none⟩ a).setCell ⟨g, 1, none⟩ b).setCell ⟨g, 2, none⟩ c).setCell ⟨g, 3, none⟩ d).setCell ⟨g, 4, none⟩ e).setCell ⟨g, 5, none⟩ f).setCell ⟨g, 6, none⟩ p).setCell ⟨g, 7, none⟩ q) (some g) := by
  obtain ⟨a0, a1, a2, a3, a4, a5, a6, a7, rfl⟩ : ∃ a0 a1 a2 a3 a4 a5 a6 a7, cs = #[a0, a1, a2, a3, a4, a5, a6, a7] := by
    rcases cs with ⟨l⟩
    match l, hc with
    | [a0, a1, a2, a3, a4, a5, a6, a7], _ => exact ⟨a0, a1, a2, a3, a4, a5, a6, a7, rfl⟩
  have h1 : (w.setCell ⟨g, 0, none⟩ a).heap[g]? = some (.cells #[a, a1, a2, a3, a4, a5, a6, a7] t (0, 0)) := by
    rw [set_blk h 0 a]
    rfl
  have h2 : ((w.setCell ⟨g, 0, none⟩ a).setCell ⟨g, 1, none⟩ b).heap[g]? = some (.cells #[a, b, a2, a3, a4, a5, a6, a7] t (0, 0)) := by
    rw [set_blk h1 1 b]
    rfl
  have h3 : (((w.setCell ⟨g, 0, none⟩ a).setCell ⟨g, 1, none⟩ b).setCell ⟨g, 2, none⟩ c).heap[g]? = some (.cells #[a, b, c, a3, a4, a5, a6, a7] t (0, 0)) := by
    rw [set_blk h2 2 c]
    rfl
  have h4 : ((((w.setCell ⟨g, 0, none⟩ a).setCell ⟨g, 1, none⟩ b).setCell ⟨g, 2, none⟩ c).setCell ⟨g, 3, none⟩ d).heap[g]? = some (.cells #[a, b, c, d, a4, a5, a6, a7] t (0, 0)) := by
    rw [set_blk h3 3 d]
    rfl
  have h5 : (((((w.setCell ⟨g, 0, none⟩ a).setCell ⟨g, 1, none⟩ b).setCell ⟨g, 2, none⟩ c).setCell ⟨g, 3, none⟩ d).setCell ⟨g, 4, none⟩ e).heap[g]? = some (.cells #[a, b, c, d, e, a5, a6, a7] t (0, 0)) := by
    rw [set_blk h4 4 e]
    rfl
  have h6 : ((((((w.setCell ⟨g, 0, none⟩ a).setCell ⟨g, 1, none⟩ b).setCell ⟨g, 2, none⟩ c).setCell ⟨g, 3, none⟩ d).setCell ⟨g, 4, none⟩ e).setCell ⟨g, 5, none⟩ f).heap[g]? = some (.cells #[a, b, c, d, e, f, a6, a7] t (0, 0)) := by
    rw [set_blk h5 5 f]
    rfl
  have h7 : (((((((w.setCell ⟨g, 0, none⟩ a).setCell ⟨g, 1, none⟩ b).setCell ⟨g, 2, none⟩ c).setCell ⟨g, 3, none⟩ d).setCell ⟨g, 4, none⟩ e).setCell ⟨g, 5, none⟩ f).setCell ⟨g, 6, none⟩ p).heap[g]? = some (.cells #[a, b, c, d, e, f, p, a7] t (0, 0)) := by
    rw [set_blk h6 6 p]
    rfl
  have h8 : ((((((((w.setCell ⟨g, 0, none⟩ a).setCell ⟨g, 1, none⟩ b).setCell ⟨g, 2, none⟩ c).setCell ⟨g, 3, none⟩ d).setCell ⟨g, 4, none⟩ e).setCell ⟨g, 5, none⟩ f).setCell ⟨g, 6, none⟩ p).setCell ⟨g, 7, none⟩ q).heap[g]? = some (.cells #[a, b, c, d, e, f, p, q] t (0, 0)) := by
    rw [set_blk h7 7 q]
    rfl
  refine ⟨h8, ?_⟩
  have g := fun (W : World) j v => set_grown W g j v
  exact grown_trans (grown_trans (grown_trans (grown_trans (grown_trans (grown_trans (grown_trans (g _ _ _) (g _ _ _)) (g _ _ _)) (g _ _ _)) (g _ _ _)) (g _ _ _)) (g _ _ _)) (g _ _ _)
def st4 (st : Bool) (a : BA) (k : Int) (ik iv : BA) (o : Int × BA × List BA × List Tok) : Res (Rl × List Tok) := bnd (symbolT [59] o.2.2.2) (fun r6 => .ok (⟨st, a, k, ik, iv, o.1, o.2.1, o.2.2.1⟩, r6))
def st3 (st : Bool) (a : BA) (k : Int) (i : BA × BA × List Tok) : Res (Rl × List Tok) := bnd (opR i.2.2) (st4 st a k i.1 i.2.1)
def st2 (st : Bool) (a : BA) (k : Int × List Tok) : Res (Rl × List Tok) := bnd (ifR k.2) (st3 st a k.1)
def st1 (st : Bool) (a : BA × List Tok) : Res (Rl × List Tok) := bnd (kindR a.2) (st2 st a.1)
theorem ruleR_st (r : List Tok) : ruleR r = bnd (inR (mustR r).2) (st1 (mustR r).1) := rfl
theorem wordR_false {s : L} {r r' : List Tok} (h : wordR s r = (false, r')) : acceptT 1 s r = none ∧ r' = r := by
  unfold wordR at h
  cases e : acceptT 1 s r with
  | none => rw [e] at h; cases h; exact ⟨rfl, rfl⟩
  | some x => rw [e] at h; cases h
theorem wordR_true {s : L} {r r' : List Tok} (h : wordR s r = (true, r')) : acceptT 1 s r = some r' := by
  unfold wordR at h
  cases e : acceptT 1 s r with
  | none => rw [e] at h; cases h
  | some x => rw [e] at h; cases h; rfl
theorem wordR_len {s : L} {r r' : List Tok} {q : Bool} (h : wordR s r = (q, r')) (hl : tokLen r) : tokLen r' := by
  cases q with
  | false => rw [(wordR_false h).2]; exact hl
  | true => exact acceptT_len (wordR_true h) hl
def kindA : Array Value := #[.string (ba [97, 110, 121]), .string (ba [110, 111, 100, 101]), .string (ba [119, 97, 121]), .string (ba [97, 114, 101, 97]), .string (ba [114, 111, 117, 116, 101]), .string (ba [116, 117, 114, 110])]
theorem kind_cells (w : World) (t : TypeId) (i : Nat) (s : L) (h : kindW[i]? = some s) : (w.alloc (.cells kindA t)).cell? ⟨w.heap.size, i, none⟩ = some (.string (ba s)) := by
  rw [cell_of_row _ _ i _ _ _ (heap_alloc_new w (.cells kindA t))]
  rcases i with _ | _ | _ | _ | _ | _ | i
  all_goals first | (cases h; rfl) | (simp [kindW] at h)
theorem idxT_len {ws : List L} {i j : Int} {r r' : List Tok} (h : idxT ws i r = some (j, r')) (hl : tokLen r) : tokLen r' := by
  induction ws generalizing i with
  | nil => cases h
  | cons s ws ih =>
    unfold idxT at h
    cases e : acceptT 1 s r with
    | none => rw [e] at h; exact ih h
    | some x => rw [e] at h; cases h; exact acceptT_len e hl
theorem symbolT_len {s : L} {r r' : List Tok} (h : symbolT s r = .ok r') (hl : tokLen r) : tokLen r' := by
  unfold symbolT at h
  cases e : acceptT 4 s r with
  | none => rw [e] at h; cases h
  | some x => rw [e] at h; cases h; exact acceptT_len e hl
set_option maxRecDepth 100000 in
set_option maxHeartbeats 4000000 in
theorem kinds_any (w : World) : Calls Tryz.prog 35 #[] w fun e w' => e = .returned (.agg #[.string (ba [97, 110, 121]), .string (ba [110, 111, 100, 101]), .string (ba [119, 97, 121]), .string (ba [97, 114, 101, 97]), .string (ba [114, 111, 117, 116, 101]), .string (ba [116, 117, 114, 110])]) ∧ Below w.heap.size w w' := by
  go_enter Tryz.func35, Tryz.ntmps35
  go_wp2_with fail
  refine bodyPost_ret (v := .agg #[.string (ba [97, 110, 121]), .string (ba [110, 111, 100, 101]), .string (ba [119, 97, 121]), .string (ba [97, 114, 101, 97]), .string (ba [114, 111, 117, 116, 101]), .string (ba [116, 117, 114, 110])]) ?_ rfl ⟨rfl, (Below.refl _ _).alloc (Nat.le_refl _) _⟩
  simp [results, Tryz.results35, go_sem, ba]
theorem rule_fin {w W W' : World} {b n : Nat} {r : List Tok} {bx : Nat} {cs : Array Value} (h : RuI w b n r bx cs W) (hg : W.grownBy W' (some w.heap.size)) {v : Value} {l : List BA}
    (hr : W.ownsRow (w.heap.size + 1) 9 1 v l.length (l.map .string)) : VaI w b n r v l W' := by
  have hb := h.ltb
  refine ⟨h.prs.kept hg (fun x hx => by cases hx; omega), ?_, grown_more h.grown hg (fun x hx => by cases hx; exact .inl (Nat.le_refl _)), hb⟩
  have := own_grown hr hg (fun x hx => by cases hx; omega)
  refine ⟨this.1, this.2.imp id ?_⟩
  rintro ⟨g, cap, cur, h1, h2, h3⟩
  exact ⟨g, cap, cur, h1, by omega, h3⟩
set_option maxRecDepth 100000 in
set_option maxHeartbeats 16000000 in
theorem rule_any (b n : Nat) (r : List Tok) (w : World) (h : PrsI b n r w) (hr : tokLen r) :
    Calls Tryz.prog 23 #[.pointer (some ⟨b, 0, none⟩)] w fun e w' =>
      (∃ x r' v, ruleR r = .ok (x, r') ∧ e = .returned (vRl x v) ∧ VaI w b n r' v x.vals w') ∨ ∃ y, ruleR r = .error y ∧ e = fltE n y ∧ w.grownBy w' (some b) := by
  obtain ⟨V, hV⟩ : ∃ V, ruleR r = V := ⟨_, rfl⟩
  rw [hV]
  have HV := hide hV
  have HR := hide hr
  have HLT := hide h.lt
  obtain ⟨wo, hwo⟩ : ∃ wo, w.alloc (.cells #[.bool false, .string ⟨#[]⟩, .int .i64 0, .string ⟨#[]⟩, .string ⟨#[]⟩, .int .i64 0, .string ⟨#[]⟩, .slice none 0 0] 37) = wo := ⟨_, rfl⟩
  have hb0 : Below w.heap.size w wo := by rw [← hwo]; exact (Below.refl _ _).alloc (Nat.le_refl _) _
  have hbl : wo.heap[w.heap.size]? = some (.cells #[.bool false, .string ⟨#[]⟩, .int .i64 0, .string ⟨#[]⟩, .string ⟨#[]⟩, .int .i64 0, .string ⟨#[]⟩, .slice none 0 0] 37 (0, 0)) := by rw [← hwo]; exact heap_alloc_new _ _
  have HBL := hide hbl
  have HG0 := hide (below_grown hb0 (some b))
  have HW1 := hide (word_one b n r wMust wo (h.kept (below_grown hb0 none) (fun x hx => by cases hx)))
  clear h hr hV hb0 hbl
  go_enter Tryz.func23, Tryz.ntmps23
  go_wp2_with fail
  clear hwo
  refine HW1.out.mono ?_
  rintro _ w1 ⟨st, r1, h1, rfl, h2, h3⟩
  have HM : mustR r = (st, r1) := by rw [← h1]; unfold mustR wordR; cases acceptT 1 wMust r <;> rfl
  have HV1 : Hid (bnd (inR r1) (st1 st) = V) := by rw [← HV.out, ruleR_st, HM]; exact hide rfl
  have HL1 := hide (wordR_len h1 HR.out)
  have H2 := hide h2
  have H3 := hide h3
  clear h1 h2 h3 HW1 HV HM
  go_wp2_with fail
  have h2 := H2.out
  have h3 := H3.out
  clear H2 H3
  obtain ⟨w2, hw2⟩ : ∃ w2, w1.alloc (.cells #[.bool st, .string ⟨#[]⟩, .int .i64 0, .string ⟨#[]⟩, .string ⟨#[]⟩, .int .i64 0, .string ⟨#[]⟩, .slice none 0 0] 37) = w2 := ⟨_, rfl⟩
  obtain ⟨bx, hbx⟩ : ∃ bx, w1.heap.size = bx := ⟨_, rfl⟩
  have HRU : Hid (RuI w b n r1 bx #[.bool st, .string ⟨#[]⟩, .int .i64 0, .string ⟨#[]⟩, .string ⟨#[]⟩, .int .i64 0, .string ⟨#[]⟩, .slice none 0 0] w2) := by
    have hb : Below w1.heap.size w1 w2 := by rw [← hw2]; exact (Below.refl _ _).alloc (Nat.le_refl _) _
    have hl := lt_of_blk HBL.out
    have hs := h3.size
    refine hide ⟨h2.kept (below_grown hb none) (fun x hx => by cases hx), grown_more (grown_more HG0.out h3 (fun x hx => .inr hx)) (below_grown hb none) (fun x hx => by cases hx), ?_, ?_, HLT.out, by omega⟩
    · have h5 := (h3.block w.heap.size hl (fun e => by have := HLT.out; cases e; omega)).trans HBL.out
      exact (hb.block _ (lt_of_blk h5)).trans h5
    · rw [← hw2, ← hbx]; exact heap_alloc_new _ _
  have HW2 := hide (word_one b n r1 wIn w2 HRU.out.prs)
  rw [hw2, hbx]
  clear h2 h3 HBL HG0 hw2 hbx
  refine HW2.out.mono ?_
  rintro _ w3 ⟨q, r2, h1, rfl, h2, h3⟩
  have HIN := hide h1
  have HRU3 := hide (HRU.out.step h2 h3)
  have HL2 := hide (wordR_len h1 HL1.out)
  clear h1 h2 h3 HW2 HRU
  go_upto_if 9 with (fail)
  go_cut [] (fun wx => ∃ (a : BA) (r3 : List Tok), Hid (inR r1 = .ok (a, r3)) ∧ Hid (tokLen r3) ∧ Hid (RuI w b n r3 bx #[.bool st, .string a, .int .i64 0, .string ⟨#[]⟩, .string ⟨#[]⟩, .int .i64 0, .string ⟨#[]⟩, .slice none 0 0] wx))
  case first =>
    cases q with
    | false =>
      obtain ⟨e1, e2⟩ := wordR_false HIN.out
      have HI : Hid (inR r1 = .ok (ba [], r2)) := by unfold inR; rw [e1, e2]; exact hide rfl
      clear e1 e2
      go_wp2_with fail
      go_meet
      exact ⟨_, _, HI, HL2, HRU3⟩
    | true =>
      have e1 := wordR_true HIN.out
      have HI : Hid (inR r1 = bnd (takeT 1 r2) (fun p => .ok (ba p.1, p.2))) := by unfold inR; rw [e1]; exact hide rfl
      have HN := hide (name_any' b n r2 w3 HRU3.out.prs HL2.out)
      clear e1
      go_wp2_with fail
      refine HN.out.mono ?_
      rintro _ w4 (⟨s, r3, h1, rfl, h2, h3⟩ | ⟨x, h1, rfl, h2⟩)
      · have HI2 : Hid (inR r1 = .ok (ba s, r3)) := by rw [HI.out, h1]; exact hide rfl
        have HRU4 := hide (HRU3.out.step h2 h3)
        have HL3 := hide (takeT_len h1 HL2.out)
        have d1 := HRU4.out.cell 1
        have f1 := HRU4.out.frz 1
        clear h1 h2 h3
        go_wp2_with fail
        go_meet
        exact ⟨_, _, HI2, HL3, HRU4.out.set 1 _⟩
      · have HX : Hid (V = .error x) := by rw [← HV1.out, HI.out, h1]; exact hide rfl
        have HG := hide (grown_more HRU3.out.grown h2 (fun x hx => .inr hx))
        clear h1 h2
        unfold fltE
        go_wp2_with fail
        exact ⟨rfl, .inr ⟨_, HX.out, rfl, HG.out⟩⟩
  case rest =>
    obtain ⟨a, r3, hi, hl, hru⟩ := hcut
    have HV2 : Hid (bnd (kindR r3) (st2 st a) = V) := by rw [← HV1.out, hi.out]; exact hide rfl
    have HL3 := hide hl.out
    have HRU := hide hru.out
    have HK := hide (kinds_any wc)
    have hmf : ∀ (fn : Fn) (first cap : Array Value) (w : World), (Instr.makeFunc fn first cap).run Tryz.prog w = .ok (.func fn first cap) w := fun _ _ _ _ => rfl
    clear hi hl hru HV1 HIN HRU3 HL2 HL1
    go_wp2_with fail
    refine HK.out.mono ?_
    rintro _ w5 ⟨rfl, b5⟩
    have HRU5 := hide (HRU.out.step (HRU.out.prs.kept (below_grown b5 none) (fun x hx => by cases hx)) (below_grown b5 (some b)))
    clear b5 HK HRU
    go_wp2_with fail
    have hru6 := HRU5.out.alloc (.cells kindA 88)
    have HIX := hide (idx_any kindW b n w5.heap.size 6 r3 _ hru6.prs (by decide) (kind_cells w5 88))
    have HRU6 := hide hru6
    clear hru6
    unfold kindA at HRU6 HIX
    generalize w5.alloc (.cells #[.string (ba [97, 110, 121]), .string (ba [110, 111, 100, 101]), .string (ba [119, 97, 121]), .string (ba [97, 114, 101, 97]), .string (ba [114, 111, 117, 116, 101]), .string (ba [116, 117, 114, 110])] 88) = wk at *
    refine HIX.out.mono ?_
    rintro _ w6 (⟨h1, rfl, rfl⟩ | ⟨k, r4, h1, hk0, rfl, h2, h3⟩)
    · have HX : Hid (V = .error (5, r3)) := by rw [← HV2.out]; unfold kindR; rw [h1]; exact hide rfl
      have HRU7 := hide (HRU6.out.set 2 (.int .i64 (-1)))
      have d2 := HRU6.out.cell 2
      have f2 := HRU6.out.frz 2
      have HFL := hide (fail_any b n 5 r3 _ HRU7.out.prs)
      clear h1 HRU5
      go_wp2_with fail
      refine HFL.out.mono ?_
      rintro _ w8 ⟨rfl, rfl⟩
      unfold fltE
      go_wp2_with fail
      exact ⟨rfl, .inr ⟨_, HX.out, rfl, HRU7.out.grown⟩⟩
    · have HV3 : Hid (bnd (ifR r4) (st3 st a k) = V) := by rw [← HV2.out]; unfold kindR; rw [h1]; exact hide rfl
      have HL4 := hide (idxT_len h1 HL3.out)
      have HRU7 := hide (HRU6.out.step h2 h3)
      have d2 := HRU7.out.cell 2
      have f2 := HRU7.out.frz 2
      have HRU8 := hide (HRU7.out.set 2 (.int .i64 k))
      have HW3 := hide (word_one b n r4 wWhere _ HRU8.out.prs)
      have hk1 : ¬ k < 0 := by omega
      clear h1 h2 h3 HRU5 HRU6 HV2 HL3 hk0
      go_wp2_with fail
      refine HW3.out.mono ?_
      rintro _ w9 ⟨q2, r5, h1, rfl, h2, h3⟩
      have HWH := hide h1
      have HRU9 := hide (HRU8.out.step h2 h3)
      have HL5 := hide (wordR_len h1 HL4.out)
      clear h1 h2 h3 HW3 HRU8 HRU7 d2 f2
      go_upto_if 25 with (fail)
      go_cut [] (fun wx => ∃ (ik iv : BA) (r6 : List Tok), Hid (ifR r4 = .ok (ik, iv, r6)) ∧ Hid (tokLen r6) ∧ Hid (RuI w b n r6 bx #[.bool st, .string a, .int .i64 k, .string ik, .string iv, .int .i64 0, .string ⟨#[]⟩, .slice none 0 0] wx))
      case first =>
        cases q2 with
        | false =>
          obtain ⟨e1, e2⟩ := wordR_false HWH.out
          have HI : Hid (ifR r4 = .ok (ba [], ba [], r5)) := by unfold ifR; rw [e1, e2]; exact hide rfl
          clear e1 e2
          go_wp2_with fail
          go_meet
          exact ⟨_, _, _, HI, HL5, HRU9⟩
        | true =>
          have e1 := wordR_true HWH.out
          have HI : Hid (ifR r4 = bnd (takeT 1 r5) (fun p => bnd (symbolT [61] p.2) (fun r3 => bnd (takeT 3 r3) (fun q => .ok (ba p.1, ba q.1, q.2))))) := by unfold ifR; rw [e1]; exact hide rfl
          have HN := hide (name_any' b n r5 w9 HRU9.out.prs HL5.out)
          clear e1
          go_wp2_with fail
          refine HN.out.mono ?_
          rintro _ wn (⟨s, r6, h1, rfl, h2, h3⟩ | ⟨x, h1, rfl, h2⟩)
          · have HI2 : Hid (ifR r4 = bnd (symbolT [61] r6) (fun r3 => bnd (takeT 3 r3) (fun q => .ok (ba s, ba q.1, q.2)))) := by rw [HI.out, h1]; exact hide rfl
            have HRUa := hide (HRU9.out.step h2 h3)
            have HL6 := hide (takeT_len h1 HL5.out)
            have d3 := HRUa.out.cell 3
            have f3 := HRUa.out.frz 3
            have HRUb := hide (HRUa.out.set 3 (.string (ba s)))
            have HSY := hide (symbol_any b n r6 [61] _ HRUb.out.prs)
            clear h1 h2 h3 HI HN
            go_wp2_with fail
            refine HSY.out.mono ?_
            rintro _ wm (⟨r7, h1, rfl, h2, h3⟩ | ⟨x, h1, rfl, h2⟩)
            · have HI3 : Hid (ifR r4 = bnd (takeT 3 r7) (fun q => .ok (ba s, ba q.1, q.2))) := by rw [HI2.out, h1]; exact hide rfl
              have HRUc := hide (HRUb.out.step h2 h3)
              have HL7 := hide (symbolT_len h1 HL6.out)
              have HTK := hide (take_any b n 3 r7 wm h2 HL7.out)
              clear h1 h2 h3 HI2 HSY d3 f3
              go_wp2_with fail
              refine HTK.out.mono ?_
              rintro _ wt (⟨s2, r8, h1, rfl, h2, h3⟩ | ⟨x, h1, rfl, h2⟩)
              · have HI4 : Hid (ifR r4 = .ok (ba s, ba s2, r8)) := by rw [HI3.out, h1]; exact hide rfl
                have HRUd := hide (HRUc.out.step h2 h3)
                have HL8 := hide (takeT_len h1 HL7.out)
                have d4 := HRUd.out.cell 4
                have f4 := HRUd.out.frz 4
                clear h1 h2 h3
                go_wp2_with fail
                go_meet
                exact ⟨_, _, _, HI4, HL8, HRUd.out.set 4 _⟩
              · have HX : Hid (V = .error x) := by rw [← HV3.out, HI3.out, h1]; exact hide rfl
                have HG := hide (grown_more HRUc.out.grown h2 (fun x hx => .inr hx))
                clear h1 h2
                unfold fltE
                go_wp2_with fail
                exact ⟨rfl, .inr ⟨_, HX.out, rfl, HG.out⟩⟩
            · have HX : Hid (V = .error x) := by rw [← HV3.out, HI2.out, h1]; exact hide rfl
              have HG := hide (grown_more HRUb.out.grown h2 (fun x hx => .inr hx))
              clear h1 h2
              unfold fltE
              go_wp2_with fail
              exact ⟨rfl, .inr ⟨_, HX.out, rfl, HG.out⟩⟩
          · have HX : Hid (V = .error x) := by rw [← HV3.out, HI.out, h1]; exact hide rfl
            have HG := hide (grown_more HRU9.out.grown h2 (fun x hx => .inr hx))
            clear h1 h2
            unfold fltE
            go_wp2_with fail
            exact ⟨rfl, .inr ⟨_, HX.out, rfl, HG.out⟩⟩
      case rest =>
        obtain ⟨ik, iv, r6, hi, hl, hru⟩ := hcut
        have HV4 : Hid (bnd (opR r6) (st4 st a k ik iv) = V) := by rw [← HV3.out, hi.out]; exact hide rfl
        have HL6 := hide hl.out
        have HRU := hide hru.out
        clear hi hl hru HV3 HWH HRU9 HL5 HL4
        have HW4 := hide (word_one b n r6 wNeeds wc HRU.out.prs)
        go_wp2_with fail
        refine HW4.out.mono ?_
        rintro _ wa ⟨q3, r7, h1, rfl, h2, h3⟩
        have HWN := hide h1
        have HRUa := hide (HRU.out.step h2 h3)
        have HL7 := hide (wordR_len h1 HL6.out)
        clear h1 h2 h3 HW4 HRU
        cases q3 with
        | true =>
          have e1 := wordR_true HWN.out
          have HO : Hid (opR r6 = bnd (takeT 1 r7) (fun p => .ok (1, ba p.1, [], p.2))) := by unfold opR; rw [e1]; exact hide rfl
          clear e1 HWN
          have HN := hide (name_any' b n r7 wa HRUa.out.prs HL7.out)
          go_wp2_with fail
          refine HN.out.mono ?_
          rintro _ wn (⟨s, r8, h1, rfl, h2, h3⟩ | ⟨x, h1, rfl, h2⟩)
          · have HO2 : Hid (bnd (symbolT [59] r8) (fun r6 => .ok (⟨st, a, k, ik, iv, 1, ba s, []⟩, r6)) = V) := by rw [← HV4.out, HO.out, h1]; exact hide rfl
            have HRUb := hide (HRUa.out.step h2 h3)
            have d5 := HRUb.out.cell 5
            have f5 := HRUb.out.frz 5
            have d6 := HRUb.out.cell 6
            have f6 := HRUb.out.frz 6
            have HRUc := hide ((HRUb.out.set 5 (.int .i64 1)).set 6 (.string (ba s)))
            have HSY := hide (symbol_any b n r8 [59] _ HRUc.out.prs)
            clear h1 h2 h3 HO HN
            go_wp2_with fail
            refine HSY.out.mono ?_
            rintro _ wm (⟨r9, h1, rfl, h2, h3⟩ | ⟨x, h1, rfl, h2⟩)
            · have HX : Hid (V = .ok (⟨st, a, k, ik, iv, 1, ba s, []⟩, r9)) := by rw [← HO2.out, h1]; exact hide rfl
              have HRUd := hide (HRUc.out.step h2 h3)
              have hrow : wm.ownsRow (w.heap.size + 1) 9 1 (.slice none 0 0) 0 (([] : List BA).map .string) := World.ownsRow_nil _ _ _ _
              obtain ⟨a0, a1, a2, a3, a4, a5, a6, a7⟩ := blk8 HRUd.out.res
              obtain ⟨g0, g1, g2, g3, g4, g5, g6, g7⟩ := blk8 HRUd.out.var
              have z0 := HRUd.out.frz0
              clear h1 h2 h3 HSY
              go_wp2_with fail
              obtain ⟨hb8, hg8⟩ := set8 rfl HRUd.out.res (.bool st) (.string a) (.int .i64 k) (.string ik) (.string iv) (.int .i64 1) (.string (ba s)) (.slice none 0 0)
              refine bodyPost_ret (v := vRl ⟨st, a, k, ik, iv, 1, ba s, []⟩ (.slice none 0 0)) ?_ rfl (.inl ⟨_, r9, _, HX.out, rfl, ?_⟩)
              · obtain ⟨e0, e1, e2, e3, e4, e5, e6, e7⟩ := blk8 hb8
                simp [results, Tryz.results23, go_sem, vRl, e0, e1, e2, e3, e4, e5, e6, e7]
              · exact rule_fin HRUd.out hg8 hrow
            · have HX : Hid (V = .error x) := by rw [← HO2.out, h1]; exact hide rfl
              have HG := hide (grown_more HRUc.out.grown h2 (fun x hx => .inr hx))
              clear h1 h2
              unfold fltE
              go_wp2_with fail
              exact ⟨rfl, .inr ⟨_, HX.out, rfl, HG.out⟩⟩
          · have HX : Hid (V = .error x) := by rw [← HV4.out, HO.out, h1]; exact hide rfl
            have HG := hide (grown_more HRUa.out.grown h2 (fun x hx => .inr hx))
            clear h1 h2
            unfold fltE
            go_wp2_with fail
            exact ⟨rfl, .inr ⟨_, HX.out, rfl, HG.out⟩⟩
        | false =>
          obtain ⟨e1, rfl⟩ := wordR_false HWN.out
          have N1 := hide e1
          clear e1 HWN
          have HWx := hide (word_one b n r7 wNo wa HRUa.out.prs)
          go_wp2_with fail
          refine HWx.out.mono ?_
          rintro _ wb ⟨q4, ra, h1, rfl, h2, h3⟩
          have HWN := hide h1
          have HRUn := hide (HRUa.out.step h2 h3)
          have HLn := hide (wordR_len h1 HL7.out)
          clear h1 h2 h3 HWx HRUa HL7
          have HRUa := hide HRUn.out
          have HL7 := hide HLn.out
          clear HRUn HLn
          cases q4 with
          | true =>
            have e1 := wordR_true HWN.out
            have HO : Hid (opR r7 = bnd (takeT 1 ra) (fun p => .ok (3, ba p.1, [], p.2))) := by unfold opR; rw [N1.out, e1]; exact hide rfl
            clear e1 HWN
            have HN := hide (name_any' b n ra wb HRUa.out.prs HL7.out)
            go_wp2_with fail
            refine HN.out.mono ?_
            rintro _ wn (⟨s, r8, h1, rfl, h2, h3⟩ | ⟨x, h1, rfl, h2⟩)
            · have HO2 : Hid (bnd (symbolT [59] r8) (fun r6 => .ok (⟨st, a, k, ik, iv, 3, ba s, []⟩, r6)) = V) := by rw [← HV4.out, HO.out, h1]; exact hide rfl
              have HRUb := hide (HRUa.out.step h2 h3)
              have d5 := HRUb.out.cell 5
              have f5 := HRUb.out.frz 5
              have d6 := HRUb.out.cell 6
              have f6 := HRUb.out.frz 6
              have HRUc := hide ((HRUb.out.set 5 (.int .i64 3)).set 6 (.string (ba s)))
              have HSY := hide (symbol_any b n r8 [59] _ HRUc.out.prs)
              clear h1 h2 h3 HO HN
              go_wp2_with fail
              refine HSY.out.mono ?_
              rintro _ wm (⟨r9, h1, rfl, h2, h3⟩ | ⟨x, h1, rfl, h2⟩)
              · have HX : Hid (V = .ok (⟨st, a, k, ik, iv, 3, ba s, []⟩, r9)) := by rw [← HO2.out, h1]; exact hide rfl
                have HRUd := hide (HRUc.out.step h2 h3)
                have hrow : wm.ownsRow (w.heap.size + 1) 9 1 (.slice none 0 0) 0 (([] : List BA).map .string) := World.ownsRow_nil _ _ _ _
                obtain ⟨a0, a1, a2, a3, a4, a5, a6, a7⟩ := blk8 HRUd.out.res
                obtain ⟨g0, g1, g2, g3, g4, g5, g6, g7⟩ := blk8 HRUd.out.var
                have z0 := HRUd.out.frz0
                clear h1 h2 h3 HSY
                go_wp2_with fail
                obtain ⟨hb8, hg8⟩ := set8 rfl HRUd.out.res (.bool st) (.string a) (.int .i64 k) (.string ik) (.string iv) (.int .i64 3) (.string (ba s)) (.slice none 0 0)
                refine bodyPost_ret (v := vRl ⟨st, a, k, ik, iv, 3, ba s, []⟩ (.slice none 0 0)) ?_ rfl (.inl ⟨_, r9, _, HX.out, rfl, ?_⟩)
                · obtain ⟨e0, e1, e2, e3, e4, e5, e6, e7⟩ := blk8 hb8
                  simp [results, Tryz.results23, go_sem, vRl, e0, e1, e2, e3, e4, e5, e6, e7]
                · exact rule_fin HRUd.out hg8 hrow
              · have HX : Hid (V = .error x) := by rw [← HO2.out, h1]; exact hide rfl
                have HG := hide (grown_more HRUc.out.grown h2 (fun x hx => .inr hx))
                clear h1 h2
                unfold fltE
                go_wp2_with fail
                exact ⟨rfl, .inr ⟨_, HX.out, rfl, HG.out⟩⟩
            · have HX : Hid (V = .error x) := by rw [← HV4.out, HO.out, h1]; exact hide rfl
              have HG := hide (grown_more HRUa.out.grown h2 (fun x hx => .inr hx))
              clear h1 h2
              unfold fltE
              go_wp2_with fail
              exact ⟨rfl, .inr ⟨_, HX.out, rfl, HG.out⟩⟩
          | false =>
            obtain ⟨e1, rfl⟩ := wordR_false HWN.out
            have N2 := hide e1
            clear e1 HWN
            have HWx := hide (word_one b n ra wHas wb HRUa.out.prs)
            go_wp2_with fail
            refine HWx.out.mono ?_
            rintro _ wd ⟨q5, rb, h1, rfl, h2, h3⟩
            have HWN := hide h1
            have HRUn := hide (HRUa.out.step h2 h3)
            have HLn := hide (wordR_len h1 HL7.out)
            clear h1 h2 h3 HWx HRUa HL7
            have HRUa := hide HRUn.out
            have HL7 := hide HLn.out
            clear HRUn HLn
            cases q5 with
            | false =>
              obtain ⟨e1, rfl⟩ := wordR_false HWN.out
              have HX : Hid (V = .error (5, rb)) := by rw [← HV4.out]; unfold opR; rw [N1.out, N2.out, e1]; exact hide rfl
              have HFL := hide (fail_any b n 5 rb wd HRUa.out.prs)
              clear e1 HWN
              go_wp2_with fail
              refine HFL.out.mono ?_
              rintro _ w8 ⟨rfl, rfl⟩
              unfold fltE
              go_wp2_with fail
              exact ⟨rfl, .inr ⟨_, HX.out, rfl, HRUa.out.grown⟩⟩
            | true =>
              have e1 := wordR_true HWN.out
              have HO : Hid (opR ra = bnd (takeT 1 rb) (fun p => bnd (ofR p.2) (fun r3 => bnd (valuesT r3) (fun q => .ok (2, ba p.1, q.1, q.2))))) := by unfold opR; rw [N1.out, N2.out, e1]; exact hide rfl
              have HN := hide (name_any' b n rb wd HRUa.out.prs HL7.out)
              clear e1 HWN
              go_wp2_with fail
              refine HN.out.mono ?_
              rintro _ wn (⟨s, rc, h1, rfl, h2, h3⟩ | ⟨x, h1, rfl, h2⟩)
              · have HO1 : Hid (opR ra = bnd (ofR rc) (fun r3 => bnd (valuesT r3) (fun q => .ok (2, ba s, q.1, q.2)))) := by rw [HO.out, h1]; exact hide rfl
                have HRUb := hide (HRUa.out.step h2 h3)
                have HLc := hide (takeT_len h1 HL7.out)
                have d5 := HRUb.out.cell 5
                have f5 := HRUb.out.frz 5
                have d6 := HRUb.out.cell 6
                have f6 := HRUb.out.frz 6
                have HRUc := hide ((HRUb.out.set 5 (.int .i64 2)).set 6 (.string (ba s)))
                have HWo := hide (word_one b n rc wOf _ HRUc.out.prs)
                clear h1 h2 h3 HO HN HRUa
                go_wp2_with fail
                refine HWo.out.mono ?_
                rintro _ we ⟨q6, rd, h1, rfl, h2, h3⟩
                have HWN := hide h1
                have HRUe := hide (HRUc.out.step h2 h3)
                have HLd := hide (wordR_len h1 HLc.out)
                clear h1 h2 h3 HWo HRUc HRUb d5 f5 d6 f6
                cases q6 with
                | false =>
                  obtain ⟨e1, rfl⟩ := wordR_false HWN.out
                  have HX : Hid (V = .error (5, rd)) := by rw [← HV4.out, HO1.out]; unfold ofR; rw [e1]; exact hide rfl
                  have HFL := hide (fail_any b n 5 rd we HRUe.out.prs)
                  clear e1 HWN
                  go_wp2_with fail
                  refine HFL.out.mono ?_
                  rintro _ w8 ⟨rfl, rfl⟩
                  unfold fltE
                  go_wp2_with fail
                  exact ⟨rfl, .inr ⟨_, HX.out, rfl, HRUe.out.grown⟩⟩
                | true =>
                  have e1 := wordR_true HWN.out
                  have HO3 : Hid (opR ra = bnd (valuesT rd) (fun q => .ok (2, ba s, q.1, q.2))) := by rw [HO1.out]; unfold ofR; rw [e1]; exact hide rfl
                  have HVS := hide (values_any b n rd we HRUe.out.prs HLd.out)
                  have HSZ := hide (show w.heap.size + 1 ≤ we.heap.size ∧ bx < we.heap.size from ⟨by have := HRUe.out.ltx; have := lt_of_blk HRUe.out.var; omega, lt_of_blk HRUe.out.var⟩)
                  clear e1 HWN HO1
                  go_wp2_with fail
                  refine HVS.out.mono ?_
                  rintro _ wv (⟨vl, r8, vv, h1, rfl, h2⟩ | ⟨x, h1, rfl, h2⟩)
                  · obtain ⟨Av, cv, rfl⟩ := own_shape h2.row
                    have HO2 : Hid (bnd (symbolT [59] r8) (fun r6 => .ok (⟨st, a, k, ik, iv, 2, ba s, vl⟩, r6)) = V) := by rw [← HV4.out, HO3.out, h1]; exact hide rfl
                    have HRUf := hide (HRUe.out.step h2.prs h2.grown)
                    have d7 := HRUf.out.cell 7
                    have f7 := HRUf.out.frz 7
                    have HRUc := hide (HRUf.out.set 7 (.slice Av vl.length cv))
                    have HROW : Hid ((wv.setCell ⟨bx, 7, none⟩ (.slice Av vl.length cv)).ownsRow (w.heap.size + 1) 9 1 (.slice Av vl.length cv) vl.length (vl.map .string)) := by
                      have h9 := own_grown h2.row (set_grown wv bx 7 (.slice Av vl.length cv)) (fun x hx => by cases hx; exact HSZ.out.2)
                      refine hide ⟨h9.1, h9.2.imp id ?_⟩
                      rintro ⟨g, cap, cur, q1, q2, q3⟩
                      exact ⟨g, cap, cur, q1, Nat.le_trans HSZ.out.1 q2, q3⟩
                    have HSY := hide (symbol_any b n r8 [59] _ HRUc.out.prs)
                    clear h1 h2 HVS HO3
                    go_wp2_with fail
                    refine HSY.out.mono ?_
                    rintro _ wm (⟨r9, h1, rfl, h2, h3⟩ | ⟨x, h1, rfl, h2⟩)
                    · have HX : Hid (V = .ok (⟨st, a, k, ik, iv, 2, ba s, vl⟩, r9)) := by rw [← HO2.out, h1]; exact hide rfl
                      have HRUd := hide (HRUc.out.step h2 h3)
                      have hrow := own_grown HROW.out h3 (fun x hx => by cases hx; have := HRUc.out.ltb; omega)
                      obtain ⟨a0, a1, a2, a3, a4, a5, a6, a7⟩ := blk8 HRUd.out.res
                      obtain ⟨g0, g1, g2, g3, g4, g5, g6, g7⟩ := blk8 HRUd.out.var
                      have z0 := HRUd.out.frz0
                      clear h1 h2 h3 HSY
                      go_wp2_with fail
                      obtain ⟨hb8, hg8⟩ := set8 rfl HRUd.out.res (.bool st) (.string a) (.int .i64 k) (.string ik) (.string iv) (.int .i64 2) (.string (ba s)) (.slice Av vl.length cv)
                      refine bodyPost_ret (v := vRl ⟨st, a, k, ik, iv, 2, ba s, vl⟩ (.slice Av vl.length cv)) ?_ rfl (.inl ⟨_, r9, _, HX.out, rfl, ?_⟩)
                      · obtain ⟨e0, e1, e2, e3, e4, e5, e6, e7⟩ := blk8 hb8
                        simp [results, Tryz.results23, go_sem, vRl, e0, e1, e2, e3, e4, e5, e6, e7]
                      · exact rule_fin HRUd.out hg8 hrow
                    · have HX : Hid (V = .error x) := by rw [← HO2.out, h1]; exact hide rfl
                      have HG := hide (grown_more HRUc.out.grown h2 (fun x hx => .inr hx))
                      clear h1 h2
                      unfold fltE
                      go_wp2_with fail
                      exact ⟨rfl, .inr ⟨_, HX.out, rfl, HG.out⟩⟩
                  · have HX : Hid (V = .error x) := by rw [← HV4.out, HO3.out, h1]; exact hide rfl
                    have HG := hide (grown_more HRUe.out.grown h2 (fun x hx => .inr hx))
                    clear h1 h2
                    unfold fltE
                    go_wp2_with fail
                    exact ⟨rfl, .inr ⟨_, HX.out, rfl, HG.out⟩⟩
              · have HX : Hid (V = .error x) := by rw [← HV4.out, HO.out, h1]; exact hide rfl
                have HG := hide (grown_more HRUa.out.grown h2 (fun x hx => .inr hx))
                clear h1 h2
                unfold fltE
                go_wp2_with fail
                exact ⟨rfl, .inr ⟨_, HX.out, rfl, HG.out⟩⟩
end Go.Proofs.YtoodmhlefaepaaaGreat
