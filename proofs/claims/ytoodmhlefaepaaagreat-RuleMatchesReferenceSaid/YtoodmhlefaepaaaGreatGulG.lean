/-
  The reference's reader of tokens, walked: a rule.
-/
import Derived.Test.YtoodmhlefaepaaaGreatGulE
import Derived.Deep.CutBlock
namespace Go.Proofs.YtoodmhlefaepaaaGreat
open Go.RowKit Go.Proofs.PlLex Go.Proofs.PlRule

/-- The reader within a rule: the result's variable, the rule's, which holds cs. -/
structure GuI (w : World) (b n : Nat) (ts : List Tok) (st : Rst) (bx : Nat) (cs : Array Value) (W : World) : Prop where
  rd : RdI b n ts st W
  grown : w.grownBy W (some b)
  res : W.heap[w.heap.size]? = some (.cells zeroA 37 (0, 0))
  var : W.heap[bx]? = some (.cells cs 37 (0, 0))
  ltb : b < w.heap.size
  ltx : w.heap.size < bx
theorem GuI.far {w : World} {b n : Nat} {ts : List Tok} {st : Rst} {bx : Nat} {cs : Array Value} {W W' : World} {row : Option Nat} (h : GuI w b n ts st bx cs W) (hg : W.grownBy W' row) (hr : ∀ y, row = some y → bx < y) : GuI w b n ts st bx cs W' := by
  have h1 := h.res
  have hb := h.ltb
  have hx := h.ltx
  exact ⟨h.rd.kept hg (fun y hy => by have := hr y hy; omega), grown_more h.grown hg (fun y hy => .inl (by have := hr y hy; omega)), (hg.block _ (lt_of_blk h1) (fun e => by have := hr _ e.symm; omega)).trans h1, (hg.block _ (lt_of_blk h.var) (fun e => by have := hr _ e.symm; omega)).trans h.var, hb, hx⟩
theorem GuI.step {w : World} {b n : Nat} {ts : List Tok} {st st' : Rst} {bx : Nat} {cs : Array Value} {W W' : World} (h : GuI w b n ts st bx cs W) (hp : RdI b n ts st' W') (hg : W.grownBy W' (some b)) : GuI w b n ts st' bx cs W' := by
  have h1 := h.res
  have hb := h.ltb
  have hx := h.ltx
  exact ⟨hp, grown_more h.grown hg (fun x hx => .inr hx), (hg.block _ (lt_of_blk h1) (fun e => by cases e; omega)).trans h1, (hg.block _ (lt_of_blk h.var) (fun e => by cases e; omega)).trans h.var, hb, hx⟩
theorem GuI.set {w : World} {b n : Nat} {ts : List Tok} {st : Rst} {bx : Nat} {cs : Array Value} {W : World} (h : GuI w b n ts st bx cs W) (j : Nat) (v : Value) : GuI w b n ts st bx (cs.setIfInBounds j v) (W.setCell ⟨bx, j, none⟩ v) := by
  have h1 := h.res
  have hb := h.ltb
  have hx := h.ltx
  have hg := set_grown W bx j v
  exact ⟨h.rd.kept hg (fun x e => by cases e; omega), grown_more h.grown hg (fun x e => by cases e; exact .inl (by omega)), (hg.block _ (lt_of_blk h1) (fun e => by cases e; omega)).trans h1, set_blk h.var j v, hb, hx⟩
theorem GuI.lift {w : World} {b n : Nat} {ts : List Tok} {st : Rst} {bx : Nat} {cs : Array Value} {W W' : World} (h : GuI w b n ts st bx cs W) (hb : Below W.heap.size W W') : GuI w b n ts st bx cs W' := h.far (below_grown hb none) (fun y hy => by cases hy)
theorem GuI.cell {w : World} {b n : Nat} {ts : List Tok} {st : Rst} {bx : Nat} {cs : Array Value} {W : World} (h : GuI w b n ts st bx cs W) (j : Nat) : W.cell? ⟨bx, j, none⟩ = cs[j]? := by
  have := h.var
  simp [World.cell?, this]
theorem GuI.frz {w : World} {b n : Nat} {ts : List Tok} {st : Rst} {bx : Nat} {cs : Array Value} {W : World} (h : GuI w b n ts st bx cs W) (j : Nat) : W.frozen? ⟨bx, j, none⟩ = false := by
  have := h.var
  simp [World.frozen?, this]
theorem GuI.frz0 {w : World} {b n : Nat} {ts : List Tok} {st : Rst} {bx : Nat} {cs : Array Value} {W : World} (h : GuI w b n ts st bx cs W) : ∀ j, W.frozen? ⟨w.heap.size, j, none⟩ = false := fun j => by
  have := h.res
  simp [World.frozen?, this]
theorem kindS_low {n : Nat} {st st' : Rst} {k : Int} (h : idxS kindW 0 st = (k, st')) (hk : ¬ k < 0) : kindS n st = (k, st') := by
  unfold kindS
  rw [h]
  show (if k < 0 then (k, failS n 5 st') else (k, st')) = _
  rw [if_neg hk]
theorem kindS_none {n : Nat} {st st' : Rst} (h : idxS kindW 0 st = (-1, st')) : kindS n st = (-1, failS n 5 st') := by
  unfold kindS
  rw [h]
  rfl
/-- Within the values of a rule: a row of strings of the call's own beside. -/
structure GvI (w : World) (b n : Nat) (ts : List Tok) (st : Rst) (bx : Nat) (C : Value → Array Value) (v : Value) (l : List BA) (W : World) : Prop where
  gu : GuI w b n ts st bx (C v) W
  row : W.ownsRow (bx + 1) 9 1 v l.length (l.map .string)
theorem GvI.step {w : World} {b n : Nat} {ts : List Tok} {st st' : Rst} {bx : Nat} {C : Value → Array Value} {v : Value} {l : List BA} {W W' : World} (h : GvI w b n ts st bx C v l W) (hp : RdI b n ts st' W') (hg : W.grownBy W' (some b)) : GvI w b n ts st' bx C v l W' :=
  ⟨h.gu.step hp hg, own_grown h.row hg (fun x hx => by cases hx; have := h.gu.ltb; have := h.gu.ltx; omega)⟩
theorem GvI.lift {w : World} {b n : Nat} {ts : List Tok} {st : Rst} {bx : Nat} {C : Value → Array Value} {v : Value} {l : List BA} {W W' : World} (h : GvI w b n ts st bx C v l W) (hb : Below W.heap.size W W') : GvI w b n ts st bx C v l W' :=
  ⟨h.gu.lift hb, own_grown h.row (below_grown hb none) (fun x hx => by cases hx)⟩
theorem GvI.more {w : World} {b n : Nat} {ts : List Tok} {st : Rst} {bx : Nat} {C : Value → Array Value} {v : Value} {l : List BA} {W W' : World} {s : BA} {g cap : Nat} (h : GvI w b n ts st bx C v l W) (hC : ∀ v v', (C v).setIfInBounds 7 v' = C v')
    (ho : W'.ownsRow (bx + 1) 9 1 (.slice (some ⟨g, 0, none⟩) (l.length + 1) cap) (l.length + 1) (l.map .string ++ [.string s])) (hg : W.grownBy W' v.ownBlock) :
    GvI w b n ts st bx C (.slice (some ⟨g, 0, none⟩) (l ++ [s]).length cap) (l ++ [s]) (W'.setCell ⟨bx, 7, none⟩ (.slice (some ⟨g, 0, none⟩) (l.length + 1) cap)) := by
  have h1 := (h.gu.far hg (fun y hy => by have := own_blk h.row hy; omega)).set 7 (.slice (some ⟨g, 0, none⟩) (l.length + 1) cap)
  rw [hC] at h1
  have h2 := own_grown ho (set_grown W' bx 7 (.slice (some ⟨g, 0, none⟩) (l.length + 1) cap)) (fun x hx => by cases hx; omega)
  have hl : (l ++ [s]).length = l.length + 1 := by simp
  have hm : (l ++ [s]).map Value.string = l.map .string ++ [.string s] := by simp
  refine ⟨?_, by rw [hl, hm]; exact h2⟩
  rw [show Value.slice (some ⟨g, 0, none⟩) (l ++ [s]).length cap = .slice (some ⟨g, 0, none⟩) (l.length + 1) cap from by rw [hl]]
  exact h1
theorem GvI.far7 {w : World} {b n : Nat} {ts : List Tok} {st : Rst} {bx : Nat} {C : Value → Array Value} {v : Value} {l : List BA} {W W' : World} (h : GvI w b n ts st bx C v l W) (hC : ∀ v, (C v)[7]? = some v) (hg : W.grownBy W' v.ownBlock) : W'.cell? ⟨bx, 7, none⟩ = some v ∧ W'.frozen? ⟨bx, 7, none⟩ = false := by
  have h1 := h.gu.far hg (fun y hy => by have := own_blk h.row hy; omega)
  exact ⟨by rw [h1.cell 7, hC], h1.frz 7⟩
def valsLen (bx : Nat) (w : World) : Nat := match w.cell? ⟨bx, 7, none⟩ with | some (.slice _ m _) => m | _ => 0
theorem valsLen_of {bx : Nat} {w : World} {A : Option Addr} {m c : Nat} (h : w.cell? ⟨bx, 7, none⟩ = some (.slice A m c)) : valsLen bx w = m := by unfold valsLen; rw [h]
theorem opS_needs {n : Nat} {st st1 : Rst} (h : wordQ wNeeds st = (true, st1)) : opS n st = (1, ba (anyS n 1 st1).1, [], (anyS n 1 st1).2) := by unfold opS; rw [h]
theorem opS_no' {n : Nat} {st st1 st2 : Rst} (h : wordQ wNeeds st = (false, st1)) (h2 : wordQ wNo st1 = (true, st2)) : opS n st = (3, ba (anyS n 1 st2).1, [], (anyS n 1 st2).2) := by
  unfold opS; rw [h]; simp only [h2]
theorem opS_has {n : Nat} {st st1 st2 st3 : Rst} (h : wordQ wNeeds st = (false, st1)) (h2 : wordQ wNo st1 = (false, st2)) (h3 : wordQ wHas st2 = (true, st3)) : opS n st = (2, ba (anyS n 1 st3).1, (valuesS n (ofS n (anyS n 1 st3).2)).1, (valuesS n (ofS n (anyS n 1 st3).2)).2) := by
  unfold opS; rw [h]; simp only [h2, h3]
theorem opS_bad {n : Nat} {st st1 st2 st3 : Rst} (h : wordQ wNeeds st = (false, st1)) (h2 : wordQ wNo st1 = (false, st2)) (h3 : wordQ wHas st2 = (false, st3)) : opS n st = (0, ba [], [], failS n 5 st3) := by
  unfold opS; rw [h]; simp only [h2, h3]
theorem ofS_yes {n : Nat} {st st1 : Rst} (h : wordQ wOf st = (true, st1)) : ofS n st = st1 := by unfold ofS; rw [h]
theorem ofS_not {n : Nat} {st st1 : Rst} (h : wordQ wOf st = (false, st1)) : ofS n st = failS n 5 st1 := by unfold ofS; rw [h]
theorem any_len (n k : Nat) (st : Rst) : lenS (anyS n k st).2 ≤ lenS st := by
  cases st with
  | error x => exact Nat.le_refl _
  | ok r =>
    cases e : takeT k r with
    | error y => rw [anyS_no n k e]; exact Nat.zero_le _
    | ok p => rw [anyS_ok n k e]; exact (take_suf e).length_le
theorem full_len (n : Nat) (l : List BA) (st : Rst) : lenS (fullS n l st) ≤ lenS st := by
  unfold fullS
  split
  · cases st <;> exact Nat.zero_le _
  · exact Nat.le_refl _
theorem full_few {n : Nat} {l : List BA} {r r9 : List Tok} {s : L} (h : anyS n 3 (fullS n l (.ok r)) = (s, .ok r9)) (hl : l.length ≤ 60) : l.length + 1 ≤ 60 := by
  rcases Nat.lt_or_ge l.length 60 with h1 | h1
  · omega
  · have h60 : l.length = 60 := by omega
    exfalso
    unfold fullS at h
    by_cases hs : isStrS (.ok r) = true
    · rw [if_pos ⟨h60, hs⟩] at h
      cases h
    · rw [if_neg (fun e => hs e.2)] at h
      cases e : takeT 3 r with
      | error y => rw [anyS_no n 3 e] at h; cases h
      | ok p =>
        obtain ⟨t, rfl, hk, _⟩ := take_cut (s := p.1) (r' := p.2) e
        exact hs (show decide (t.kind = 3) = true from decide_eq_true hk)
set_option maxRecDepth 100000 in
set_option maxHeartbeats 16000000 in
theorem grule_any (b n : Nat) (ts : List Tok) (st0 : Rst) (w : World) (h : RdI b n ts st0 w) (hr : tokLen ts) :
    Calls Tryz.prog 26 #[.pointer (some ⟨b, 0, none⟩)] w fun e w' =>
      ∃ x v st', RuleS n st0 x st' ∧ x.vals.length ≤ 61 ∧ e = .returned (vRl x v) ∧ RdI b n ts st' w' ∧ w.grownBy w' (some b) ∧ w'.ownsRow w.heap.size 9 1 v x.vals.length (x.vals.map .string) := by
  have HR := hide hr
  have HLT := hide h.lt
  obtain ⟨wo, hwo⟩ : ∃ wo, w.alloc (.cells #[.bool false, .string ⟨#[]⟩, .int .i64 0, .string ⟨#[]⟩, .string ⟨#[]⟩, .int .i64 0, .string ⟨#[]⟩, .slice none 0 0] 37) = wo := ⟨_, rfl⟩
  have hb0 : Below w.heap.size w wo := by rw [← hwo]; exact (Below.refl _ _).alloc (Nat.le_refl _) _
  have hbl : wo.heap[w.heap.size]? = some (.cells #[.bool false, .string ⟨#[]⟩, .int .i64 0, .string ⟨#[]⟩, .string ⟨#[]⟩, .int .i64 0, .string ⟨#[]⟩, .slice none 0 0] 37 (0, 0)) := by rw [← hwo]; exact heap_alloc_new _ _
  have HBL := hide hbl
  have HG0 := hide (below_grown hb0 (some b))
  have HW1 := hide (gword_any b n wMust ts st0 wo (h.kept (below_grown hb0 none) (fun x hx => by cases hx)))
  clear h hr hb0 hbl
  go_enter Tryz.func26, Tryz.ntmps26
  go_wp2_with fail
  clear hwo
  refine HW1.out.mono ?_
  rintro _ w1 ⟨sx, st1, h1, rfl, h2, h3⟩
  have HM := hide h1
  have H2 := hide h2
  have H3 := hide h3
  clear h1 h2 h3 HW1
  go_wp2_with fail
  have h2 := H2.out
  have h3 := H3.out
  clear H2 H3
  obtain ⟨w2, hw2⟩ : ∃ w2, w1.alloc (.cells #[.bool sx, .string ⟨#[]⟩, .int .i64 0, .string ⟨#[]⟩, .string ⟨#[]⟩, .int .i64 0, .string ⟨#[]⟩, .slice none 0 0] 37) = w2 := ⟨_, rfl⟩
  obtain ⟨bx, hbx⟩ : ∃ bx, w1.heap.size = bx := ⟨_, rfl⟩
  have HGU : Hid (GuI w b n ts st1 bx #[.bool sx, .string ⟨#[]⟩, .int .i64 0, .string ⟨#[]⟩, .string ⟨#[]⟩, .int .i64 0, .string ⟨#[]⟩, .slice none 0 0] w2) := by
    have hb : Below w1.heap.size w1 w2 := by rw [← hw2]; exact (Below.refl _ _).alloc (Nat.le_refl _) _
    have hl := lt_of_blk HBL.out
    have hs := h3.size
    refine hide ⟨h2.kept (below_grown hb none) (fun x hx => by cases hx), grown_more (grown_more HG0.out h3 (fun x hx => .inr hx)) (below_grown hb none) (fun x hx => by cases hx), ?_, ?_, HLT.out, by omega⟩
    · have h5 := (h3.block w.heap.size hl (fun e => by have := HLT.out; cases e; omega)).trans HBL.out
      exact (hb.block _ (lt_of_blk h5)).trans h5
    · rw [← hw2, ← hbx]; exact heap_alloc_new _ _
  have HW2 := hide (gword_any b n wIn ts st1 w2 HGU.out.rd)
  rw [hw2, hbx]
  clear h2 h3 HBL HG0 hw2 hbx
  refine HW2.out.mono ?_
  rintro _ w3 ⟨q, st2, h1, rfl, h2, h3⟩
  have HIN := hide h1
  have HGU3 := hide (HGU.out.step h2 h3)
  clear h1 h2 h3 HW2 HGU
  go_upto_if 9 with (fail)
  go_cut [] (fun wx => ∃ (a : BA) (st3 : Rst), Hid (inS n st1 = (a, st3)) ∧ Hid (GuI w b n ts st3 bx #[.bool sx, .string a, .int .i64 0, .string ⟨#[]⟩, .string ⟨#[]⟩, .int .i64 0, .string ⟨#[]⟩, .slice none 0 0] wx))
  case first =>
    cases q with
    | false =>
      have HI : Hid (inS n st1 = (ba [], st2)) := by unfold inS; rw [HIN.out]; exact hide rfl
      go_wp2_with fail
      go_meet
      exact ⟨_, _, HI, HGU3⟩
    | true =>
      have HN := hide (gany_any b n 1 ts st2 w3 HGU3.out.rd HR.out)
      go_wp2_with fail
      refine HN.out.mono ?_
      rintro _ w4 ⟨s, st3, h1, rfl, h2, h3⟩
      have HI : Hid (inS n st1 = (ba s, st3)) := by unfold inS; rw [HIN.out]; show Hid ((ba (anyS n 1 st2).1, (anyS n 1 st2).2) = _); rw [h1]; exact hide rfl
      have HGU4 := hide (HGU3.out.step h2 h3)
      have d1 := HGU4.out.cell 1
      have f1 := HGU4.out.frz 1
      clear h1 h2 h3
      go_wp2_with fail
      go_meet
      exact ⟨_, _, HI, HGU4.out.set 1 _⟩
  case rest =>
    obtain ⟨a, st3, hi, hgu⟩ := hcut
    have HIN3 := hide hi.out
    have HGU := hide hgu.out
    clear hi hgu HIN HGU3
    have d2 := HGU.out.cell 2
    have f2 := HGU.out.frz 2
    have HGU1 := hide (HGU.out.set 2 (.int .i64 (-1)))
    have HGU2 : Hid (GuI w b n ts st3 bx #[.bool sx, .string a, .int .i64 (-1), .string ⟨#[]⟩, .string ⟨#[]⟩, .int .i64 0, .string ⟨#[]⟩, .slice none 0 0] (wc.setCell ⟨bx, 2, none⟩ (.int .i64 (-1)))) := HGU1
    clear HGU1
    go_upto_block 0 with (fail)
    generalize wc.setCell ⟨bx, 2, none⟩ (.int .i64 (-1)) = wk at *
    clear d2 f2 HGU
    go_cut [] (fun wx => ∃ (k : Int) (st' : Rst), (k = -1 ∨ 0 ≤ k) ∧ Hid (idxS kindW 0 st3 = (k, st')) ∧ Hid (GuI w b n ts st' bx #[.bool sx, .string a, .int .i64 k, .string ⟨#[]⟩, .string ⟨#[]⟩, .int .i64 0, .string ⟨#[]⟩, .slice none 0 0] wx))
    case first =>
      go_wp2_with fail
      go_loopw [4] (fun i wr => ∃ (k : Nat) (q : Int) (st' : Rst), k ≤ 6 ∧ i = .int .i64 k ∧ Hid (GuI w b n ts st' bx #[.bool sx, .string a, .int .i64 q, .string ⟨#[]⟩, .string ⟨#[]⟩, .int .i64 0, .string ⟨#[]⟩, .slice none 0 0] wr) ∧ ((q = -1 ∧ Hid (idxS kindW 0 st3 = idxS (kindW.drop k) k st')) ∨ (0 ≤ q ∧ Hid (idxS kindW 0 st3 = (q, st'))))) (fun i _ => 7 - (intOf i).toNat)
      case atStart => exact ⟨0, -1, st3, by omega, rfl, HGU2, .inl ⟨rfl, hide rfl⟩⟩
      case round =>
        clear HGU2
        obtain ⟨k, q, st', hk, rfl, hgu, hcase⟩ := hrel
        have HGU := hide hgu.out
        clear hgu
        have d2 := HGU.out.cell 2
        by_cases hk6 : k = 6
        · subst hk6
          have hmeet : Hid ((q = -1 ∨ 0 ≤ q) ∧ idxS kindW 0 st3 = (q, st')) := by
            rcases hcase with ⟨rfl, h⟩ | ⟨h0, h⟩
            · exact hide ⟨.inl rfl, h.out⟩
            · exact hide ⟨.inr h0, h.out⟩
          clear hcase d2 hk
          go_wp2_with fail
          go_meet
          exact ⟨_, _, hmeet.out.1, hide hmeet.out.2, HGU⟩
        · have k5 : (k : Int) ≤ 5 := by omega
          have kd : decide ((k : Int) ≤ 5) = true := decide_eq_true k5
          have kd2 : decide (k ≤ 5) = true := decide_eq_true (by omega)
          rcases hcase with ⟨rfl, hx⟩ | ⟨h0, hx⟩
          · obtain ⟨s, hs⟩ : ∃ s, kindW[k]? = some s := ⟨_, List.getElem?_eq_getElem (show k < kindW.length from by show k < 6; omega)⟩
            have hdr : kindW.drop k = s :: kindW.drop (k + 1) := by
              have hl : k < kindW.length := by show k < 6; omega
              rw [List.drop_eq_getElem_cons hl]
              rw [List.getElem?_eq_getElem hl] at hs
              cases hs
              rfl
            have HX := hide hx.out
            rw [hdr] at HX
            have HKC := hide (gkinds_any wr)
            have HS := hide hs
            have HK6 := hide hk6
            have HKK := hide hk
            have k0 : (0 : Int) ≤ (k : Int) := by omega
            have k1 : (k : Int) < 6 := by omega
            clear hx hdr hs hk hk6
            go_wp2_with fail
            refine HKC.out.mono ?_
            rintro _ w5 ⟨g5, rfl, b5, hg5, hc5⟩
            have hcK := hc5 k s HS.out
            have hgu5 := HGU.out.lift b5
            have HGU5 := hide hgu5
            have HWD := hide (gword_any b n s ts st' w5 hgu5.rd)
            clear hc5 b5 hg5 hgu5 HKC d2
            go_wp2_with fail
            refine HWD.out.mono ?_
            rintro _ w6 ⟨qq, st6, h1, rfl, h2, h3⟩
            have HWQ := hide h1
            have HGU6 := hide (HGU5.out.step h2 h3)
            clear h1 h2 h3 hcK HWD
            cases qq with
            | false =>
              have HX2 : Hid (idxS kindW 0 st3 = idxS (kindW.drop (k + 1)) ((k + 1 : Nat) : Int) st6) := by
                rw [HX.out]
                show Hid (idxS (s :: kindW.drop (k + 1)) k st' = _)
                rw [idxS, HWQ.out]
                exact hide rfl
              go_wp2_with fail
              refine ⟨⟨k + 1, -1, st6, by have := HK6.out; have := HKK.out; omega, by go_num, HGU6, .inl ⟨rfl, HX2⟩⟩, ?_⟩
              have := HK6.out
              have := HKK.out
              simp [intOf]; omega
            | true =>
              have HX2 : Hid (idxS kindW 0 st3 = ((k : Int), st6)) := by
                rw [HX.out]
                rw [idxS, HWQ.out]
                exact hide rfl
              have d2 := HGU6.out.cell 2
              have f2 := HGU6.out.frz 2
              go_wp2_with fail
              refine ⟨⟨k + 1, (k : Int), st6, by have := HK6.out; have := HKK.out; omega, by go_num, hide (HGU6.out.set 2 _), .inr ⟨k0, HX2⟩⟩, ?_⟩
              have := HK6.out
              have := HKK.out
              simp [intOf]; omega
          · have q1 : ¬ q < 0 := by omega
            have HX := hide hx.out
            clear hx hk hk6
            go_wp2_with fail
            go_meet
            exact ⟨_, _, .inr h0, HX, HGU⟩
    case rest =>
      obtain ⟨k, st4, hk, hx, hgu⟩ := hcut
      have HX := hide hx.out
      have HGU := hide hgu.out
      have d2 := HGU.out.cell 2
      clear hx hgu HGU2
      go_upto_if 33 with (fail)
      go_cut [] (fun wx => ∃ (k : Int) (st5 : Rst), Hid (kindS n st3 = (k, st5)) ∧ Hid (GuI w b n ts st5 bx #[.bool sx, .string a, .int .i64 k, .string ⟨#[]⟩, .string ⟨#[]⟩, .int .i64 0, .string ⟨#[]⟩, .slice none 0 0] wx))
      case first =>
        by_cases hk0 : k < 0
        · obtain rfl : k = -1 := by omega
          have HY := hide (kindS_none (n := n) HX.out)
          have HF := hide (gfail_any b n 5 ts st4 wc HGU.out.rd (by decide) (fun _ => rfl))
          clear hk hk0
          go_wp2_with fail
          refine HF.out.mono ?_
          rintro _ w2 ⟨rfl, h1, h2⟩
          have HGU2 := hide (HGU.out.step h1 h2)
          clear h1 h2
          go_wp2_with fail
          go_meet
          exact ⟨_, _, HY, HGU2⟩
        · have HY := hide (kindS_low (n := n) HX.out hk0)
          go_wp2_with fail
          go_meet
          exact ⟨_, _, HY, HGU⟩
      case rest =>
        obtain ⟨k2, st5, hx, hgu⟩ := hcut
        have HK := hide hx.out
        have HGV := hide hgu.out
        clear hx hgu HGU d2 HX hk
        have HW3 := hide (gword_any b n wWhere ts st5 wc HGV.out.rd)
        go_wp2_with fail
        refine HW3.out.mono ?_
        rintro _ w6 ⟨q, st6, h1, rfl, h2, h3⟩
        have HWH := hide h1
        have HGU6 := hide (HGV.out.step h2 h3)
        clear h1 h2 h3 HW3 HGV
        go_upto_if 37 with (fail)
        go_cut [] (fun wx => ∃ (ik iv : BA) (st7 : Rst), Hid (ifS n st5 = (ik, iv, st7)) ∧ Hid (GuI w b n ts st7 bx #[.bool sx, .string a, .int .i64 k2, .string ik, .string iv, .int .i64 0, .string ⟨#[]⟩, .slice none 0 0] wx))
        case first =>
          cases q with
          | false =>
            have HI : Hid (ifS n st5 = (ba [], ba [], st6)) := by unfold ifS; rw [HWH.out]; exact hide rfl
            go_wp2_with fail
            go_meet
            exact ⟨_, _, _, HI, HGU6⟩
          | true =>
            have HN := hide (gany_any b n 1 ts st6 w6 HGU6.out.rd HR.out)
            go_wp2_with fail
            refine HN.out.mono ?_
            rintro _ w7 ⟨s, st7, h1, rfl, h2, h3⟩
            have HA1 := hide h1
            have HGU7 := hide (HGU6.out.step h2 h3)
            have d3 := HGU7.out.cell 3
            have f3 := HGU7.out.frz 3
            have HGU8 := hide (HGU7.out.set 3 (.string (ba s)))
            have HSY := hide (gsymbol_any b n [61] ts st7 _ HGU8.out.rd)
            clear h1 h2 h3 HN
            go_wp2_with fail
            refine HSY.out.mono ?_
            rintro _ w8 ⟨st8, h1, rfl, h2, h3⟩
            have HA2 := hide h1
            have HGU9 := hide (HGU8.out.step h2 h3)
            have HN := hide (gany_any b n 3 ts st8 w8 h2 HR.out)
            clear h1 h2 h3 HSY d3 f3 HGU8
            go_wp2_with fail
            refine HN.out.mono ?_
            rintro _ w9 ⟨s2, st9, h1, rfl, h2, h3⟩
            have HI : Hid (ifS n st5 = (ba s, ba s2, st9)) := by
              unfold ifS
              rw [HWH.out]
              show Hid ((ba (anyS n 1 st6).1, ba (anyS n 3 (symbolS n [61] (anyS n 1 st6).2)).1, (anyS n 3 (symbolS n [61] (anyS n 1 st6).2)).2) = _)
              rw [HA1.out]
              show Hid ((ba s, ba (anyS n 3 (symbolS n [61] st7)).1, (anyS n 3 (symbolS n [61] st7)).2) = _)
              rw [HA2.out, h1]
              exact hide rfl
            have HGUa := hide (HGU9.out.step h2 h3)
            have d4 := HGUa.out.cell 4
            have f4 := HGUa.out.frz 4
            clear h1 h2 h3 HN
            go_wp2_with fail
            go_meet
            exact ⟨_, _, _, HI, HGUa.out.set 4 _⟩
        case rest =>
          obtain ⟨ik, iv, st7, hx, hgu⟩ := hcut
          have HIF := hide hx.out
          have HGV := hide hgu.out
          clear hx hgu HWH HGU6
          have HW4 := hide (gword_any b n wNeeds ts st7 wc HGV.out.rd)
          go_wp2_with fail
          refine HW4.out.mono ?_
          rintro _ w8 ⟨q, st8, h1, rfl, h2, h3⟩
          have HWN := hide h1
          have HGU8 := hide (HGV.out.step h2 h3)
          clear h1 h2 h3 HW4 HGV
          go_upto_if 49 with (fail)
          go_cut [] (fun wx => ∃ (op : Int) (key : BA) (vs : List BA) (vv : Value) (st9 : Rst), vs.length ≤ 61 ∧ Hid (opS n st7 = (op, key, vs, st9)) ∧ Hid (GuI w b n ts st9 bx #[.bool sx, .string a, .int .i64 k2, .string ik, .string iv, .int .i64 op, .string key, vv] wx) ∧ Hid (wx.ownsRow (bx + 1) 9 1 vv vs.length (vs.map .string)))
          case first =>
            cases q with
            | true =>
              have d5 := HGU8.out.cell 5
              have f5 := HGU8.out.frz 5
              have HGU9 := hide (HGU8.out.set 5 (.int .i64 1))
              have HN := hide (gany_any b n 1 ts st8 _ HGU9.out.rd HR.out)
              go_wp2_with fail
              refine HN.out.mono ?_
              rintro _ w9 ⟨s, st9, h1, rfl, h2, h3⟩
              have HI : Hid (opS n st7 = (1, ba s, [], st9)) := by rw [opS_needs HWN.out, h1]; exact hide rfl
              have HGUa := hide (HGU9.out.step h2 h3)
              have d6 := HGUa.out.cell 6
              have f6 := HGUa.out.frz 6
              clear h1 h2 h3 d5 f5
              go_wp2_with fail
              go_meet
              exact ⟨_, _, _, _, _, Nat.zero_le _, HI, hide (HGUa.out.set 6 _), hide (World.ownsRow_nil _ _ _ _)⟩
            | false =>
              have HW5 := hide (gword_any b n wNo ts st8 w8 HGU8.out.rd)
              go_wp2_with fail
              refine HW5.out.mono ?_
              rintro _ w9 ⟨q2, st9, h1, rfl, h2, h3⟩
              have HWO := hide h1
              have HGU9 := hide (HGU8.out.step h2 h3)
              clear h1 h2 h3 HW5 HGU8
              cases q2 with
              | true =>
                have d5 := HGU9.out.cell 5
                have f5 := HGU9.out.frz 5
                have HGUa := hide (HGU9.out.set 5 (.int .i64 3))
                have HN := hide (gany_any b n 1 ts st9 _ HGUa.out.rd HR.out)
                go_wp2_with fail
                refine HN.out.mono ?_
                rintro _ wa ⟨s, sta, h1, rfl, h2, h3⟩
                have HI : Hid (opS n st7 = (3, ba s, [], sta)) := by rw [opS_no' HWN.out HWO.out, h1]; exact hide rfl
                have HGUb := hide (HGUa.out.step h2 h3)
                have d6 := HGUb.out.cell 6
                have f6 := HGUb.out.frz 6
                clear h1 h2 h3 d5 f5
                go_wp2_with fail
                go_meet
                exact ⟨_, _, _, _, _, Nat.zero_le _, HI, hide (HGUb.out.set 6 _), hide (World.ownsRow_nil _ _ _ _)⟩
              | false =>
                have HW6 := hide (gword_any b n wHas ts st9 w9 HGU9.out.rd)
                go_wp2_with fail
                refine HW6.out.mono ?_
                rintro _ wa ⟨q3, sta, h1, rfl, h2, h3⟩
                have HWH := hide h1
                have HGUa := hide (HGU9.out.step h2 h3)
                clear h1 h2 h3 HW6 HGU9
                cases q3 with
                | false =>
                  have HF := hide (gfail_any b n 5 ts sta wa HGUa.out.rd (by decide) (fun _ => rfl))
                  have HI := hide (opS_bad (n := n) HWN.out HWO.out HWH.out)
                  go_wp2_with fail
                  refine HF.out.mono ?_
                  rintro _ wb ⟨rfl, h1, h2⟩
                  have HGUb := hide (HGUa.out.step h1 h2)
                  clear h1 h2
                  go_wp2_with fail
                  go_meet
                  exact ⟨_, _, _, _, _, Nat.zero_le _, HI, HGUb, hide (World.ownsRow_nil _ _ _ _)⟩
                | true =>
                  have d5 := HGUa.out.cell 5
                  have f5 := HGUa.out.frz 5
                  have HGUb := hide (HGUa.out.set 5 (.int .i64 2))
                  have HN := hide (gany_any b n 1 ts sta _ HGUb.out.rd HR.out)
                  go_wp2_with fail
                  refine HN.out.mono ?_
                  rintro _ wb ⟨key, stb, h1, rfl, h2, h3⟩
                  have HI : Hid (opS n st7 = (2, ba key, (valuesS n (ofS n stb)).1, (valuesS n (ofS n stb)).2)) := by rw [opS_has HWN.out HWO.out HWH.out, h1]; exact hide rfl
                  have HGUc := hide (HGUb.out.step h2 h3)
                  have d6 := HGUc.out.cell 6
                  have f6 := HGUc.out.frz 6
                  have HGUd := hide (HGUc.out.set 6 (.string (ba key)))
                  have HW7 := hide (gword_any b n wOf ts stb _ HGUd.out.rd)
                  clear h1 h2 h3 d5 f5 HN HGUa HGUb
                  go_wp2_with fail
                  refine HW7.out.mono ?_
                  rintro _ wc7 ⟨q4, stc, h1, rfl, h2, h3⟩
                  have HWF := hide h1
                  have HGUe := hide (HGUd.out.step h2 h3)
                  clear h1 h2 h3 d6 f6 HW7 HGUc HGUd
                  go_upto_if 68 with (fail)
                  go_cut [] (fun wx => ∃ std, Hid (ofS n stb = std) ∧ Hid (GuI w b n ts std bx #[.bool sx, .string a, .int .i64 k2, .string ik, .string iv, .int .i64 2, .string (ba key), .slice none 0 0] wx))
                  case first =>
                    cases q4 with
                    | true =>
                      go_wp2_with fail
                      go_meet
                      exact ⟨_, hide (ofS_yes HWF.out), HGUe⟩
                    | false =>
                      have HF := hide (gfail_any b n 5 ts stc wc7 HGUe.out.rd (by decide) (fun _ => rfl))
                      go_wp2_with fail
                      refine HF.out.mono ?_
                      rintro _ wf ⟨rfl, h1, h2⟩
                      have HGUf := hide (HGUe.out.step h1 h2)
                      clear h1 h2
                      go_wp2_with fail
                      go_meet
                      exact ⟨_, hide (ofS_not HWF.out), HGUf⟩
                  case rest =>
                    obtain ⟨std, ho, hgu⟩ := hcut
                    have HI2 : Hid (opS n st7 = (2, ba key, (valuesS n std).1, (valuesS n std).2)) := by rw [HI.out, ho.out]; exact hide rfl
                    have HGV : Hid (GvI w b n ts std bx (fun v => #[.bool sx, .string a, .int .i64 k2, .string ik, .string iv, .int .i64 2, .string (ba key), v]) (.slice none 0 0) [] wc) := hide ⟨hgu.out, World.ownsRow_nil _ _ _ _⟩
                    have hC7 : ∀ v : Value, ((fun v => #[.bool sx, .string a, .int .i64 k2, .string ik, .string iv, .int .i64 2, .string (ba key), v]) v : Array Value)[7]? = some v := fun v => rfl
                    have hCS : ∀ v v' : Value, ((fun v => #[.bool sx, .string a, .int .i64 k2, .string ik, .string iv, .int .i64 2, .string (ba key), v]) v : Array Value).setIfInBounds 7 v' = (fun v => #[.bool sx, .string a, .int .i64 k2, .string ik, .string iv, .int .i64 2, .string (ba key), v]) v' := fun v v' => rfl
                    generalize hCC : (fun v => #[.bool sx, .string a, .int .i64 k2, .string ik, .string iv, .int .i64 2, .string (ba key), v] : Value → Array Value) = C at *
                    have HC7 := hide hC7
                    have HCS := hide hCS
                    have HCC := hide hCC
                    clear ho hgu HI HWF HGUe hC7 hCS hCC
                    obtain ⟨i0, hi, hz0, hz1, hz2⟩ := info_split info_rstring
                    have HJ0 := hide hi
                    have HZ0 := hide hz0
                    have HZ1 := hide hz1
                    have HZ2 := hide hz2
                    clear hi hz0 hz1 hz2
                    go_upto_region 27 with (fail)
                    go_cut [] (fun wx => ∃ (l : List BA) (A : Option Addr) (c : Nat) (st' : Rst), Hid ([ba (anyS n 3 std).1] = l ∧ (anyS n 3 std).2 = st') ∧ Hid (GvI w b n ts st' bx C (.slice A l.length c) l wx))
                    case first =>
                      have HGD := hide (HGV.out.lift (below_drewX wc))
                      have HN := hide (gany_any b n 3 ts std wc.drew HGD.out.gu.rd HR.out)
                      have d7 : wc.drew.cell? ⟨bx, 7, none⟩ = some (.slice none 0 0) := (HGD.out.gu.cell 7).trans (HC7.out _)
                      go_region_law
                        (first
                          | (refine step_append_lies _ (by rfl) _ _ _ (by rfl) (bx + 1) 9 i0 (.string ⟨#[]⟩) 1 16 Tryz.underlying35 HJ0.out HZ0.out HZ1.out HZ2.out rfl (by omega) (.slice none 0 0) ([] : List BA).length (([] : List BA).map Value.string) (by rfl) HG10.out.row ⟨w9.heap.size, 0, none⟩ 1 1 [.string (ba s9)] (by rfl) (by rfl) (World.news_of_block (cs := #[.string (ba s9)]) (t := 9) (fr := (0, 0)) (heap_alloc_new w9 _)) (by simp [Value.oneCell']) (by omega) (by unfold maxLen; show 0 + 1 ≤ _; omega) (by show (0 + 1) * 16 ≤ _; omega) (by simp; omega) (w9.heap.size + 1) (by simp) ?_; intro gg cap wz hownz hgrowz hatz hltz; have hcz := (HG10.out.far7 HC7.out hgrowz).1; have hfz := (HG10.out.far7 HC7.out hgrowz).2)
                          | (go_simp; go_at_call 50; (refine HN.out.mono ?_); rintro _ w9 ⟨s9, st9, h1, rfl, h2, h3⟩; have HA9 := hide h1; have HG9 := hide (HGD.out.step h2 h3); have d79 : w9.cell? ⟨bx, 7, none⟩ = some (.slice none 0 0) := (HG9.out.gu.cell 7).trans (HC7.out _); have HG10 := hide (HG9.out.lift ((Below.refl _ w9).alloc (Nat.le_refl _) (.cells #[.string (ba s9)] 9))); have d7a : (w9.alloc (.cells #[.string (ba s9)] 9)).cell? ⟨bx, 7, none⟩ = some (.slice none 0 0) := (HG10.out.gu.cell 7).trans (HC7.out _); have hb9 : bx + 1 ≤ w9.heap.size := lt_of_blk HG9.out.gu.var; clear h1 h2 h3))
                      all_goals (
                        have hm := HG10.out.more HCS.out hownz hgrowz
                        have HM9 := hide hm
                        clear hm hownz hgrowz hatz hcz hfz
                        go_wp2_with fail
                        go_meet
                        exact ⟨[ba s9], some ⟨gg, 0, none⟩, cap, st9, hide ⟨by rw [HA9.out], by rw [HA9.out]⟩, HM9⟩)
                    case rest =>
                      obtain ⟨l0, A0, c0, st0', hv0, hg0⟩ := hcut
                      have HV0 : Hid (valuesS n std = moreS n (lenS st0' + 1) l0 st0') := by unfold valuesS; rw [hv0.out.1, hv0.out.2]; exact hide rfl
                      have hl01 : l0.length = 1 := by rw [← hv0.out.1]; rfl
                      have HL0 := hide hl01
                      have HG0 := hide hg0.out
                      clear hv0 hg0 hl01 HGV
                      go_wp2_with fail
                      go_loopw [] (fun wr => ∃ (f : Nat) (l : List BA) (A : Option Addr) (c : Nat) (st' : Rst), l.length ≤ 61 ∧ Hid (lenS st' < f) ∧ Hid (∀ r, st' = .ok r → l.length ≤ 60) ∧ Hid (valuesS n std = moreS n f l st') ∧ Hid (GvI w b n ts st' bx C (.slice A l.length c) l wr)) (fun wr => 61 - valsLen bx wr)
                      case atStart => exact ⟨_, l0, A0, c0, st0', by have := HL0.out; omega, hide (Nat.lt_succ_self _), hide (fun _ _ => by have := HL0.out; omega), HV0, HG0⟩
                      case round =>
                        clear HV0 HG0 HL0
                        obtain ⟨f, l, A, c, st', hl, hf, hok, hv, hgv⟩ := hrel
                        obtain ⟨f, rfl⟩ : ∃ f', f = f' + 1 := ⟨f - 1, by have := hf.out; omega⟩
                        have HF := hide hf.out
                        have HV := hide hv.out
                        have HGR := hide hgv.out
                        have HOK := hide hok.out
                        have HIS := hide (is_any b n 4 [44] ts st' wr hgv.out.gu.rd)
                        clear hf hv hgv hok
                        cases hq : isS 4 [44] st' with
                        | false =>
                          rw [hq] at HIS
                          have HV2 : Hid (opS n st7 = (2, ba key, l, st')) := by rw [HI2.out, HV.out, moreS_false hq]; exact hide rfl
                          clear hq
                          go_wp2_with fail
                          refine HIS.out.mono ?_
                          rintro _ wi ⟨rfl, h2, h3⟩
                          have HGI := hide (HGR.out.step h2 h3)
                          clear h2 h3
                          go_wp2_with fail
                          go_meet
                          exact ⟨2, ba key, l, _, st', hl, HV2, hide (by have := HGI.out.gu; rw [← HCC.out] at this; exact this), hide HGI.out.row⟩
                        | true =>
                          rw [hq] at HIS
                          obtain ⟨t, r, rfl⟩ := isS_true hq
                          have hl60 : l.length ≤ 60 := HOK.out _ rfl
                          have HV2 : Hid (valuesS n std = moreS n f (l ++ [ba (anyS n 3 (fullS n l (.ok r))).1]) (anyS n 3 (fullS n l (.ok r))).2) := by rw [HV.out, moreS_true hq]; exact hide rfl
                          have HF2 : Hid (r.length < f) := by have := HF.out; exact hide (by simp [lenS] at this; omega)
                          have HVL : Hid (valsLen bx wr = l.length) := hide (valsLen_of ((HGR.out.gu.cell 7).trans (HC7.out _)))
                          clear hq HF HV HOK hl
                          go_wp2_with fail
                          refine HIS.out.mono ?_
                          rintro _ wi ⟨rfl, h2, h3⟩
                          obtain ⟨g, o, ci, i, ai, hbk, hlt, hi, ck, ct, hset⟩ := h2.good
                          obtain ⟨k0, k1, k2', k3, k4, fz⟩ := blk5 hbk
                          obtain ⟨q1, q2⟩ := hset wi (grown_refl _ _) rfl
                          have HGN := hide ((HGR.out.step h2 h3).step q1 q2)
                          clear h2 h3 hbk hset q1 q2 ck ct hlt HIS HGR
                          go_upto_region 30 with (fail)
                          generalize wi.setCell ⟨b, 1, none⟩ (.int .i64 ((i : Int) + 1)) = wn at *
                          clear k0 k1 k2' k3 k4 fz hi
                          go_cut [116] (fun s116 wx => s116 = .bool (decide (l.length = 60) && isStr r) ∧ Hid (GvI w b n ts (.ok r) bx C (.slice A l.length c) l wx))
                          case first =>
                            have YN : Nonempty Unit := ⟨()⟩
                            have D7 : ∀ u, (Drn wn u).cell? ⟨bx, 7, none⟩ = some (.slice A l.length c) := fun _ => (HGN.out.gu.cell 7).trans (HC7.out _)
                            by_cases h60 : l.length = 60
                            · have e1 : ((l.length : Nat) : Int) = 60 := by omega
                              have e2 : (((l.length : Nat) : Int) == 60) = true := by rw [e1]; rfl
                              have e3 : (l.length == 60) = true := by rw [h60]; rfl
                              cases r with
                              | nil =>
                                obtain ⟨A', c', i', e', a', hbk, hA', hi', hs'⟩ := HGN.out.gu.rd.cell
                                have hle : ts.length ≤ i' := List.drop_eq_nil_iff.1 hs'.2
                                have D0 : ∀ u, (Drn wn u).cell? ⟨b, 0, none⟩ = some (.slice A' ts.length c') := fun _ => cell_of_row wn b 0 _ _ _ hbk
                                have D1 : ∀ u, (Drn wn u).cell? ⟨b, 1, none⟩ = some (.int .i64 (i' : Int)) := fun _ => cell_of_row wn b 1 _ _ _ hbk
                                have hdn : decide (i' < ts.length) = false := decide_eq_false (by omega)
                                have hl1 : ¬ ((i' : Nat) : Int) < (ts.length : Nat) := by omega
                                clear hbk hA' hi' hs' hle h60 e1
                                go_wp2_with fail
                                refine wp_region_quietV (J := Unit) (Drn wn) () rfl (by kernel_rfl) (by kernel_rfl) ?_
                                repeat (go_big_quiet_step (fail))
                                refine wpQuiet_nil ?_
                                rintro w9 ⟨u, rfl⟩
                                go_wp2_with fail
                                go_meet
                                exact ⟨by rw [show isStr [] = false from rfl, Bool.and_false], hide (HGN.out.lift (below_drewX wn))⟩
                              | cons t2 r2 =>
                                obtain ⟨g', o', c', i', a', hbk, hlt', hi', ck, ct, hset⟩ := HGN.out.gu.rd.good
                                have D0 : ∀ u, (Drn wn u).cell? ⟨b, 0, none⟩ = some (.slice (some ⟨g', o', none⟩) ts.length c') := fun _ => cell_of_row wn b 0 _ _ _ hbk
                                have D1 : ∀ u, (Drn wn u).cell? ⟨b, 1, none⟩ = some (.int .i64 (i' : Int)) := fun _ => cell_of_row wn b 1 _ _ _ hbk
                                have C0 : ∀ u, (Drn wn u).cell? ⟨g', o' + i' * 3, none⟩ = some (.int .i64 (t2.kind : Int)) := fun _ => ck
                                have hdn : decide (i' < ts.length) = true := decide_eq_true hlt'
                                have hl1 : ((i' : Nat) : Int) < (ts.length : Nat) := by omega
                                have h0 : (0 : Int) ≤ ((i' : Nat) : Int) := by omega
                                by_cases hk3 : t2.kind = 3
                                · have e4 : (((t2.kind : Nat) : Int) == 3) = true := by rw [hk3]; rfl
                                  have e5 : (t2.kind == 3) = true := by rw [hk3]; rfl
                                  have HRE : Hid ((decide (l.length = 60) && isStr (t2 :: r2)) = true) := by rw [decide_eq_true h60, isStr_iff, decide_eq_true hk3]; exact hide rfl
                                  clear hbk hset ck ct hlt' hi' h60 e1 hk3
                                  go_wp2_with fail
                                  refine wp_region_quietV (J := Unit) (Drn wn) () rfl (by kernel_rfl) (by kernel_rfl) ?_
                                  repeat (go_big_quiet_step (fail))
                                  refine wpQuiet_nil ?_
                                  rintro w9 ⟨u, rfl⟩
                                  go_wp2_with fail
                                  go_meet
                                  exact ⟨by rw [HRE.out], hide (HGN.out.lift (below_drewX wn))⟩
                                · have e4 : (((t2.kind : Nat) : Int) == 3) = false := beq_eq_false_iff_ne.2 (by omega)
                                  have e5 : (t2.kind == 3) = false := beq_eq_false_iff_ne.2 hk3
                                  have HRE : Hid ((decide (l.length = 60) && isStr (t2 :: r2)) = false) := by rw [isStr_iff, decide_eq_false hk3, Bool.and_false]; exact hide rfl
                                  clear hbk hset ck ct hlt' hi' h60 e1 hk3
                                  go_wp2_with fail
                                  refine wp_region_quietV (J := Unit) (Drn wn) () rfl (by kernel_rfl) (by kernel_rfl) ?_
                                  repeat (go_big_quiet_step (fail))
                                  refine wpQuiet_nil ?_
                                  rintro w9 ⟨u, rfl⟩
                                  go_wp2_with fail
                                  go_meet
                                  exact ⟨by rw [HRE.out], hide (HGN.out.lift (below_drewX wn))⟩
                            · have e1 : ¬ ((l.length : Nat) : Int) = 60 := by omega
                              have e2 : (((l.length : Nat) : Int) == 60) = false := beq_eq_false_iff_ne.2 e1
                              have e3 : (l.length == 60) = false := beq_eq_false_iff_ne.2 h60
                              have HRE : Hid ((decide (l.length = 60) && isStr r) = false) := by rw [decide_eq_false h60, Bool.false_and]; exact hide rfl
                              clear h60
                              go_wp2_with fail
                              refine wp_region_quietV (J := Unit) (Drn wn) () rfl (by kernel_rfl) (by kernel_rfl) ?_
                              repeat (go_big_quiet_step (fail))
                              refine wpQuiet_nil ?_
                              rintro w9 ⟨u, rfl⟩
                              go_wp2_with fail
                              go_meet
                              exact ⟨by rw [HRE.out], hide (HGN.out.lift (below_drewX wn))⟩
                          case rest =>
                            obtain ⟨rfl, hg⟩ := hcut
                            have HG1 := hide hg.out
                            clear hg HGN
                            go_upto_if 116 with (fail)
                            go_cut [] (fun wx => ∃ stf, Hid (fullS n l (.ok r) = stf) ∧ Hid (GvI w b n ts stf bx C (.slice A l.length c) l wx))
                            case first =>
                              cases hb : (decide (l.length = 60) && isStr r) with
                              | false =>
                                have HFU : Hid (fullS n l (.ok r) = .ok r) := by
                                  unfold fullS
                                  rw [if_neg (fun e => by rw [decide_eq_true e.1, show isStr r = true from e.2] at hb; cases hb)]
                                  exact hide rfl
                                clear hb
                                go_wp2_with fail
                                go_meet
                                exact ⟨_, HFU, HG1⟩
                              | true =>
                                rw [Bool.and_eq_true] at hb
                                have HFU : Hid (fullS n l (.ok r) = failS n 2 (.ok r)) := by
                                  unfold fullS
                                  rw [if_pos ⟨of_decide_eq_true hb.1, hb.2⟩]
                                  exact hide rfl
                                have HFL := hide (gfail_any b n 2 ts (.ok r) wc HG1.out.gu.rd (by decide) (fun e => by cases e; exact absurd hb.2 (by decide)))
                                clear hb
                                go_wp2_with fail
                                refine HFL.out.mono ?_
                                rintro _ wf ⟨rfl, h1, h2⟩
                                have HG2 := hide (HG1.out.step h1 h2)
                                clear h1 h2
                                go_wp2_with fail
                                go_meet
                                exact ⟨_, HFU, HG2⟩
                            case rest =>
                              obtain ⟨stf, hfu, hg⟩ := hcut
                              have HFU := hide hfu.out
                              have HG2 := hide hg.out
                              clear hfu hg HG1
                              have HGD := hide (HG2.out.lift (below_drewX wc))
                              have HN := hide (gany_any b n 3 ts stf wc.drew HGD.out.gu.rd HR.out)
                              have d7 : wc.drew.cell? ⟨bx, 7, none⟩ = some (.slice A l.length c) := (HGD.out.gu.cell 7).trans (HC7.out _)
                              go_upto_region 32 with (fail)
                              go_region_law
                                (first
                          | (refine step_append_lies _ (by rfl) _ _ _ (by rfl) (bx + 1) 9 i0 (.string ⟨#[]⟩) 1 16 Tryz.underlying35 HJ0.out HZ0.out HZ1.out HZ2.out rfl (by omega) (.slice A l.length c) l.length (l.map .string) (by rfl) HG10.out.row ⟨w9.heap.size, 0, none⟩ 1 1 [.string (ba s9)] (by rfl) (by rfl) (World.news_of_block (cs := #[.string (ba s9)]) (t := 9) (fr := (0, 0)) (heap_alloc_new w9 _)) (by simp [Value.oneCell']) (by omega) (by unfold maxLen; omega) (by omega) (by simp; omega) (w9.heap.size + 1) (by simp) ?_; intro gg cap wz hownz hgrowz hatz hltz; have hcz := (HG10.out.far7 HC7.out hgrowz).1; have hfz := (HG10.out.far7 HC7.out hgrowz).2)
                          | (go_simp; go_at_call 50; (refine HN.out.mono ?_); rintro _ w9 ⟨s9, st9, h1, rfl, h2, h3⟩; have HA9 := hide h1; have HG9 := hide (HGD.out.step h2 h3); have d79 : w9.cell? ⟨bx, 7, none⟩ = some (.slice A l.length c) := (HG9.out.gu.cell 7).trans (HC7.out _); have HG10 := hide (HG9.out.lift ((Below.refl _ w9).alloc (Nat.le_refl _) (.cells #[.string (ba s9)] 9))); have d7a : (w9.alloc (.cells #[.string (ba s9)] 9)).cell? ⟨bx, 7, none⟩ = some (.slice A l.length c) := (HG10.out.gu.cell 7).trans (HC7.out _); have hb9 : bx + 1 ≤ w9.heap.size := lt_of_blk HG9.out.gu.var; clear h1 h2 h3))
                              all_goals (
                                have hm := HG10.out.more HCS.out hownz hgrowz
                                have HM9 := hide hm
                                have HA10 := HA9.out
                                have HVV := HV2.out
                                rw [HFU.out, HA10] at HVV
                                have HVV := hide HVV
                                have HF9 : Hid (lenS st9 < f) := by
                                  have h1 := any_len n 3 stf
                                  have h2 := full_len n l (.ok r)
                                  rw [HFU.out] at h2
                                  rw [HA10] at h1
                                  have h3 := HF2.out
                                  exact hide (by simp only [lenS] at h1 h2 ⊢; omega)
                                have HOK9 : Hid (∀ r9, st9 = .ok r9 → (l ++ [ba s9]).length ≤ 60) := hide (fun r9 e => by
                                  have h1 := HFU.out
                                  have h2 := full_few (n := n) (l := l) (r := r) (r9 := r9) (s := s9) (by rw [h1, HA10, e]) hl60
                                  rw [List.length_append]
                                  exact h2)
                                clear hm hownz hgrowz hatz hcz hfz HA10
                                go_wp2_with fail
                                refine ⟨⟨f, l ++ [ba s9], some ⟨gg, 0, none⟩, cap, st9, by rw [List.length_append]; show _ + 1 ≤ _; omega, HF9, HOK9, HVV, HM9⟩, ?_⟩
                                have e9 := valsLen_of ((HM9.out.gu.cell 7).trans (HC7.out _))
                                rw [List.length_append] at e9
                                rw [HVL.out]
                                show 61 - valsLen bx _ < _
                                rw [e9]
                                show 61 - (l.length + 1) < _
                                omega)
          case rest =>
            obtain ⟨op, key, vs, vv, st9, hle, hx, hgu, hrow⟩ := hcut
            have HOP := hide hx.out
            have HGV := hide hgu.out
            have HROW := hide hrow.out
            have hshape := own_shape hrow.out
            clear hx hgu hrow HWN HGU8
            obtain ⟨Av, cv, rfl⟩ := hshape
            have HSY := hide (gsymbol_any b n [59] ts st9 wc HGV.out.rd)
            go_wp2_with fail
            refine HSY.out.mono ?_
            rintro _ wm ⟨sta, h1, rfl, h2, h3⟩
            have HRS : Hid (RuleS n st0 ⟨sx, a, k2, ik, iv, op, key, vs⟩ sta) := hide ⟨st1, st3, st5, st7, st9, HM.out, HIN3.out, HK.out, HIF.out, HOP.out, h1⟩
            have HGW := hide (HGV.out.step h2 h3)
            have HROW2 := hide (own_grown HROW.out h3 (fun x hx => by cases hx; have := HGV.out.ltb; have := HGV.out.ltx; omega))
            obtain ⟨a0, a1, a2, a3, a4, a5, a6, a7⟩ := blk8 HGW.out.res
            obtain ⟨g0, g1, g2, g3, g4, g5, g6, g7⟩ := blk8 HGW.out.var
            have z0 := HGW.out.frz0
            clear h1 h2 h3 HSY HROW HGV
            go_wp2_with fail
            obtain ⟨hb8, hg8⟩ := set8 rfl HGW.out.res (.bool sx) (.string a) (.int .i64 k2) (.string ik) (.string iv) (.int .i64 op) (.string key) (.slice Av vs.length cv)
            have hb := HGW.out.ltb
            have hx := HGW.out.ltx
            refine bodyPost_ret (v := vRl ⟨sx, a, k2, ik, iv, op, key, vs⟩ (.slice Av vs.length cv)) ?_ rfl ⟨_, _, _, HRS.out, hle, rfl, ?_, ?_, ?_⟩
            · obtain ⟨e0, e1, e2, e3, e4, e5, e6, e7⟩ := blk8 hb8
              simp [results, Tryz.results26, go_sem, vRl, e0, e1, e2, e3, e4, e5, e6, e7]
            · exact HGW.out.rd.kept hg8 (fun y hy => by cases hy; omega)
            · exact grown_more HGW.out.grown hg8 (fun y hy => by cases hy; exact .inl (Nat.le_refl _))
            · exact own_low (own_grown HROW2.out hg8 (fun y hy => by cases hy; omega)) (by omega)
end Go.Proofs.YtoodmhlefaepaaaGreat
