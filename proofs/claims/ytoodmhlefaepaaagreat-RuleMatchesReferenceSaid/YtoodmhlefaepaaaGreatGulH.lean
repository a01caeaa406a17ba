/-
  The reference's Parse, walked.
-/
import Derived.Test.YtoodmhlefaepaaaGreatGulG
import Derived.Test.YtoodmhlefaepaaaGreatLexP
import Derived.Test.YtoodmhlefaepaaaGreatRulT
import Derived.Test.YtoodmhlefaepaaaGreatRulR
import Derived.Test.YtoodmhlefaepaaaGreatRulU
namespace Go.Proofs.YtoodmhlefaepaaaGreat
open Go.RowKit Go.Proofs.PlLex Go.Proofs.PlRule

theorem below_of_grown {w W : World} (h : w.grownBy W (some w.heap.size)) : Below w.heap.size w W := ⟨h.os, h.tape, h.output, h.size, fun i hi => h.block i hi (fun e => by cases e; omega)⟩
theorem rd_start {w : World} {A : Option Addr} {c n : Nat} {ts : List Tok} (h : TokS w (.slice A ts.length c) ts) (hn : n ≤ 1000000) :
    RdI w.heap.size n ts (.ok ts) (w.alloc (.cells #[.slice A ts.length c, .int .i64 0, .int .i64 (n : Int), .int .i64 0, .int .i64 0] 74)) := by
  have hb : Below w.heap.size w (w.alloc (.cells #[.slice A ts.length c, .int .i64 0, .int .i64 (n : Int), .int .i64 0, .int .i64 0] 74)) := (Below.refl _ _).alloc (Nat.le_refl _) _
  refine ⟨⟨A, c, 0, 0, 0, heap_alloc_new _ _, ?_, Nat.zero_le _, rfl, rfl⟩, h.1, hn⟩
  rcases h.2 with ⟨rfl, _⟩ | ⟨g, o, c', he, hg, ht⟩
  · exact .inl rfl
  · cases he
    exact .inr ⟨g, o, rfl, hg, ht.below hg hb⟩
theorem gparse_err (s : BA) (w : World) (hs : s.size ≤ 1000000) (he : ¬ (lex (tx s)).2.1 = 0) :
    Calls Tryz.prog 9 #[.string s] w fun e w' => e = .returned (.tuple #[.slice none 0 0, .int .i64 ((lex (tx s)).2.1 : Int), .int .i64 (lex (tx s)).2.2]) ∧ Below w.heap.size w w' := by
  obtain ⟨ts, er, off, hlx⟩ := ltrip (tx s)
  have HL := hide (rlexS s ts er off hlx hs)
  rw [hlx] at he ⊢
  simp only at he ⊢
  have e1 : ¬ ((er : Nat) : Int) = 0 := by omega
  have e2 : (((er : Nat) : Int) == 0) = false := beq_eq_false_iff_ne.2 e1
  have e3 : (((er : Nat) : Int) != 0) = true := by rw [bne, e2]; rfl
  clear he hlx
  go_enter Tryz.func9, Tryz.ntmps9
  go_wp2_with fail
  refine (HL.out _).mono ?_
  rintro _ w1 ⟨A, c, rfl, h1, h2⟩
  have HB := hide h2
  clear h1 h2
  go_wp2_with fail
  refine bodyPost_ret (v := .tuple #[.slice none 0 0, .int .i64 (er : Int), .int .i64 off]) ?_ rfl ⟨rfl, HB.out⟩
  simp [results, Tryz.results9, go_sem]
/-- Between two rules. -/
structure GpI (b B n : Nat) (ts : List Tok) (st : Rst) (w1 : World) (l : List (Rl × Value)) (v : Value) (W : World) : Prop where
  rd : RdI b n ts st W
  rr : RrI B l v W
  below : Below w1.heap.size w1 W
  lt : b < B
  ge : w1.heap.size ≤ b
  sz : B ≤ W.heap.size
theorem GpI.step {b B n : Nat} {ts : List Tok} {st st' : Rst} {w1 : World} {l : List (Rl × Value)} {v : Value} {W W' : World} (h : GpI b B n ts st w1 l v W) (hp : RdI b n ts st' W') (hg : W.grownBy W' (some b)) : GpI b B n ts st' w1 l v W' := by
  have h1 := h.lt
  have h2 := h.ge
  exact ⟨hp, h.rr.kept hg (fun x hx => by cases hx; exact h1), h.below.trans ⟨hg.os, hg.tape, hg.output, hg.size, fun i hi => hg.block i (Nat.lt_of_lt_of_le hi h.below.size) (fun e => by cases e; omega)⟩, h1, h2, Nat.le_trans h.sz hg.size⟩
theorem GpI.far {b B n : Nat} {ts : List Tok} {st : Rst} {w1 : World} {l : List (Rl × Value)} {v : Value} {W W' : World} (h : GpI b B n ts st w1 l v W) (hg : Below W.heap.size W W') : GpI b B n ts st w1 l v W' := by
  have h1 := h.lt
  have h2 := h.ge
  exact ⟨h.rd.kept (below_grown hg none) (fun x hx => by cases hx), h.rr.kept (below_grown hg none) (fun x hx => by cases hx), tr_below h.below hg, h1, h2, Nat.le_trans h.sz hg.size⟩
theorem GpI.more {b B n : Nat} {ts : List Tok} {st : Rst} {w1 : World} {l : List (Rl × Value)} {v : Value} {W W' : World} {x : Rl × Value} {g cap : Nat} (h : GpI b B n ts st w1 l v W) (hx : W.ownsRow B 9 1 x.2 x.1.vals.length (x.1.vals.map .string))
    (ho : W'.ownsRow B 37 8 (.slice (some ⟨g, 0, none⟩) (l.length + 1) cap) (l.length + 1) (cellsRs l ++ cellsRl x)) (hg : W.grownBy W' v.ownBlock) : GpI b B n ts st w1 (l ++ [x]) (.slice (some ⟨g, 0, none⟩) (l ++ [x]).length cap) W' := by
  have h1 := h.lt
  have h2 := h.ge
  have hblk : ∀ y, v.ownBlock = some y → B ≤ y := fun y hy => own_blk h.rr.row hy
  exact ⟨h.rd.kept hg (fun y hy => by have := hblk y hy; omega), h.rr.more hx ho hg, h.below.trans ⟨hg.os, hg.tape, hg.output, hg.size, fun i hi => hg.block i (Nat.lt_of_lt_of_le hi h.below.size) (fun e => by have := hblk i e.symm; omega)⟩, h1, h2, Nat.le_trans h.sz hg.size⟩
/-- What is left to read. -/
def PaS (n f : Nat) (l : List Rl) (st : Rst) (V : Res (List Rl)) : Prop := (∃ r, st = .ok r ∧ r.length < f ∧ rulesR f l r = V) ∨ ∃ y, V = .error y ∧ st = .error (errAt n y)
theorem rulesR_zero {f : Nat} {l : List Rl} {V : Res (List Rl)} (h : rulesR (f + 1) l [] = V) : V = .ok l := by rw [← h]; rfl
set_option maxRecDepth 100000 in
set_option maxHeartbeats 16000000 in
theorem gparse_run (s : BA) (w : World) (hs : s.size ≤ 1000000) (ts : List Tok) (off : Int) (hlx : lex (tx s) = (ts, 0, off)) (V : Res (List Rl)) (hV : rulesR (ts.length + 1) [] ts = V) :
    Calls Tryz.prog 9 #[.string s] w fun e w' =>
      (∃ l v B, V = .ok (l.map Prod.fst) ∧ e = .returned (.tuple #[v, .int .i64 0, .int .i64 0]) ∧ RrI B l v w' ∧ Below w.heap.size w w') ∨
      ∃ x, V = .error x ∧ e = .returned (.tuple #[.slice none 0 0, .int .i64 ((errAt s.size x).1 : Int), .int .i64 (errAt s.size x).2]) ∧ Below w.heap.size w w' := by
  obtain ⟨i0, hi, hz0, hz1, hz2⟩ := info_split info_rule
  have HI := hide hi
  have HZ0 := hide hz0
  have HZ1 := hide hz1
  have HZ2 := hide hz2
  have HL := hide (rlexS s ts 0 off hlx hs)
  have HLT : Hid (tokLen ts) := fun t ht => by
    have := lex_text (tx s) t (by rw [hlx]; exact ht)
    have h2 : (tx s).length = s.size := rfl
    omega
  have HV := hide hV
  have HS := hide hs
  clear hlx hV hi hz0 hz1 hz2
  go_enter Tryz.func9, Tryz.ntmps9
  go_wp2_with fail
  refine (HL.out _).mono ?_
  rintro _ w1 ⟨A, c, rfl, h1, h2⟩
  have HB1 := hide h2
  have HRD := hide (rd_start h1 HS.out)
  clear h1 h2 HL
  have HGP : Hid (GpI w1.heap.size (w1.heap.size + 1) s.size ts (.ok ts) w1 [] (.slice none 0 0) (w1.alloc (.cells #[.slice A ts.length c, .int .i64 0, .int .i64 (s.size : Int), .int .i64 0, .int .i64 0] 74))) :=
    hide ⟨HRD.out, RrI.nil _ _, (Below.refl _ _).alloc (Nat.le_refl _) _, Nat.lt_succ_self _, Nat.le_refl _, by simp⟩
  clear HRD
  go_upto_block 0 with (fail)
  generalize w1.alloc (.cells #[.slice A ts.length c, .int .i64 0, .int .i64 (s.size : Int), .int .i64 0, .int .i64 0] 74) = w2 at *
  obtain ⟨bp, hbp⟩ : ∃ bp, w1.heap.size = bp := ⟨_, rfl⟩
  obtain ⟨B, hB⟩ : ∃ B, w1.heap.size + 1 = B := ⟨_, rfl⟩
  rw [hB] at HGP
  rw [hbp] at HGP ⊢
  clear hbp hB
  go_cut [9] (fun s9 wx => ∃ (l : List (Rl × Value)) (A : Option Addr) (c : Nat) (st : Rst), s9 = .slice A l.length c ∧ Hid (GpI bp B s.size ts st w1 l (.slice A l.length c) wx) ∧ (Hid (st = .ok [] ∧ V = .ok (l.map Prod.fst)) ∨ ∃ y, Hid (V = .error y ∧ st = .error (errAt s.size y))))
  case first =>
    go_wp2_with fail
    go_loopw [9] (fun s9 wr => ∃ (f : Nat) (l : List (Rl × Value)) (A : Option Addr) (c : Nat) (st : Rst), s9 = .slice A l.length c ∧ l.length ≤ 200 ∧ Hid (PaS s.size f (l.map Prod.fst) st V) ∧ Hid (GpI bp B s.size ts st w1 l (.slice A l.length c) wr)) (fun s9 _ => 201 - lenV s9)
    case atStart => exact ⟨_, [], none, 0, .ok ts, rfl, Nat.zero_le _, hide (.inl ⟨ts, rfl, Nat.lt_succ_self _, HV.out⟩), HGP⟩
    case round =>
      clear HV HGP
      obtain ⟨f, l, Al, cl, st, rfl, hl, hpa, hgp⟩ := hrel
      have HGP := hide hgp.out
      clear hgp
      rcases hpa.out with ⟨r, rfl, hf, hv⟩ | ⟨y, hv, rfl⟩
      · obtain ⟨f, rfl⟩ : ∃ f', f = f' + 1 := ⟨f - 1, by omega⟩
        cases r with
        | nil =>
          obtain ⟨A', c', i', e', a', hbk, hA', hi', hs'⟩ := HGP.out.rd.cell
          obtain ⟨rfl, hd⟩ := hs'
          obtain ⟨k0, k1, k2, k3, k4, fz⟩ := blk5 hbk
          have hle : ts.length ≤ i' := List.drop_eq_nil_iff.1 hd
          have hl1 : ¬ ((i' : Nat) : Int) < (ts.length : Nat) := by omega
          have hdn : decide (i' < ts.length) = false := decide_eq_false (by omega)
          have HVV : Hid (V = .ok (l.map Prod.fst)) := hide (rulesR_zero hv)
          clear hbk hA' hd hi' hle hpa hf hv
          go_wp2_with fail
          go_meet
          exact ⟨_, _, _, _, rfl, HGP, .inl (hide ⟨rfl, HVV.out⟩)⟩
        | cons t r =>
          obtain ⟨g', o', c', i', a', hbk, hlt', hi', ck, ct, hset⟩ := HGP.out.rd.good
          obtain ⟨k0, k1, k2, k3, k4, fz⟩ := blk5 hbk
          have hl1 : ((i' : Nat) : Int) < (ts.length : Nat) := by omega
          have hdn : decide (i' < ts.length) = true := decide_eq_true hlt'
          have hv2 := hv
          rw [rulesR_succ] at hv2
          have hf2 : r.length < f := by simp at hf; omega
          have HF2 := hide hf2
          clear hbk hlt' hi' ck ct hset hpa hf hv hf2
          by_cases hl2 : l.length = 200
          · have HVE : Hid (V = .error (2, t :: r) ∧ (failS s.size 2 (.ok (t :: r)) : Rst) = .error (errAt s.size (2, t :: r))) := by
              refine hide ⟨?_, rfl⟩
              rw [← hv2, if_neg (by simp), if_pos (by rw [List.length_map]; exact hl2)]
            have l4 : ((l.length : Nat) : Int) = 200 := by omega
            have l5 : (((l.length : Nat) : Int) == 200) = true := by rw [l4]; rfl
            have l6 : (l.length == 200) = true := by rw [hl2]; rfl
            have HFL := hide (gfail_any bp s.size 2 ts (.ok (t :: r)) wr HGP.out.rd (by decide) (fun e => by cases e))
            clear hv2 hl2 l4
            go_wp2_with fail
            refine HFL.out.mono ?_
            rintro _ wf ⟨rfl, h1, h2⟩
            have HG2 := hide (HGP.out.step h1 h2)
            clear h1 h2
            go_wp2_with fail
            go_meet
            exact ⟨_, _, _, _, rfl, HG2, .inr ⟨_, HVE⟩⟩
          · have hv3 : bnd (ruleR (t :: r)) (fun p => rulesR f (l.map Prod.fst ++ [p.1]) p.2) = V := by
              rw [← hv2, if_neg (by simp), if_neg (by rw [List.length_map]; exact hl2)]
            have HV3 := hide hv3
            have l4 : ¬ ((l.length : Nat) : Int) = 200 := by omega
            have l5 : (((l.length : Nat) : Int) == 200) = false := beq_eq_false_iff_ne.2 l4
            have l6 : (l.length == 200) = false := beq_eq_false_iff_ne.2 hl2
            have l7 : l.length < 200 := by omega
            have HRU := hide (grule_any bp s.size ts (.ok (t :: r)) wr HGP.out.rd HLT.out)
            clear hv2 hv3 hl2 hl
            go_wp2_with fail
            refine HRU.out.mono ?_
            rintro _ w7 ⟨x, v, st7, h1, hx61, rfl, h2, h3, h4⟩
            obtain ⟨A7, c7, rfl⟩ := own_shape h4
            have HRS := hide h1
            have HG7 := hide (HGP.out.step h2 h3)
            have HV7 := hide (own_low h4 HGP.out.sz)
            clear h1 h2 h3 h4 HRU hx61 k0 k1 k2 k3 k4 fz
            have hba : Below w7.heap.size w7 (w7.alloc (.cells #[.bool x.strict, .string x.area, .int .i64 x.kind, .string x.ik, .string x.iv, .int .i64 x.op, .string x.key, .slice A7 x.vals.length c7] 37)) := (Below.refl _ _).alloc (Nat.le_refl _) _
            have HG8 := hide (HG7.out.far hba)
            have HV8 := hide (own_grown HV7.out (below_grown hba none) (fun x hx => by cases hx))
            clear hba
            unfold vRl
            go_wp2_with (at_builtin; go_must (refine wpList_append_lies _ rfl (.tmp 44) (.tmp 47) 22 rfl B 37 i0 (.agg #[.bool false, .string ⟨#[]⟩, .int .i64 0, .string ⟨#[]⟩, .string ⟨#[]⟩, .int .i64 0, .string ⟨#[]⟩, .slice none 0 0]) 8 112 Tryz.underlying22 HI.out HZ0.out HZ1.out HZ2.out rfl (by decide) (.slice Al l.length cl) l.length (cellsRs l) rfl ?c0 ⟨w7.heap.size, 0, none⟩ 1 1 (cellsRl (x, .slice A7 x.vals.length c7)) rfl rfl ?c1 ?c2 (by decide) ?c3 ?c4 ?c5 (w7.heap.size + 1) ?c6 ?_))
            case c0 => exact HG8.out.rr.row
            case c1 =>
              intro j u hj
              exact rnew_cells w7 (cellsRl (x, .slice A7 x.vals.length c7)) 37 j u hj
            case c2 => intro u hu; simp [cellsRl] at hu; rcases hu with rfl | rfl | rfl | rfl | rfl | rfl | rfl | rfl <;> rfl
            case c3 => unfold maxLen; omega
            case c4 => omega
            case c5 => exact HG8.out.sz
            case c6 => simp
            intro g9 cap w9 hown9 hgrow9 hat9 _
            have HG9 := hide (HG8.out.more (x := (x, .slice A7 x.vals.length c7)) HV8.out hown9 hgrow9)
            have HLE := hide (show Value.slice (some ⟨g9, 0, none⟩) (l.length + 1) cap = .slice (some ⟨g9, 0, none⟩) (l ++ [(x, (.slice A7 x.vals.length c7 : Value))]).length cap by simp)
            have HPA : Hid (PaS s.size f ((l ++ [(x, (.slice A7 x.vals.length c7 : Value))]).map Prod.fst) st7 V) := by
              rw [List.map_append]
              rcases ruleS_ok HRS.out with ⟨r', e1, e2⟩ | ⟨y, e1, e2⟩
              · refine hide (.inl ⟨r', e2, ?_, ?_⟩)
                · have := (rule_suf e1).2
                  have h2 := HF2.out
                  simp at this
                  omega
                · rw [← HV3.out, e1]
                  rfl
              · exact hide (.inr ⟨y, by rw [← HV3.out, e1]; rfl, e2⟩)
            clear hown9 hgrow9 hat9 HG8 HV8 HV7 HG7 HRS HV3
            go_wp2_with fail
            refine ⟨⟨f, l ++ [(x, (.slice A7 x.vals.length c7 : Value))], some ⟨g9, 0, none⟩, cap, st7, HLE.out, by rw [List.length_append]; show _ + 1 ≤ _; omega, HPA, HG9⟩, ?_⟩
            simp [lenV]; omega
      · obtain ⟨A', c', i', e', a', hbk, hA', hi', hs'⟩ := HGP.out.rd.cell
        obtain ⟨k0, k1, k2, k3, k4, fz⟩ := blk5 hbk
        have h0 : e' ≠ 0 := hs'.2.2
        have e1 : ¬ ((e' : Nat) : Int) = 0 := by omega
        have e2 : (((e' : Nat) : Int) == 0) = false := beq_eq_false_iff_ne.2 e1
        have HVE : Hid (V = .error y) := hide hv
        clear hbk hA' hi' hs' h0 hpa hv
        by_cases hil : i' < ts.length
        · have hl1 : ((i' : Nat) : Int) < (ts.length : Nat) := by omega
          have hdn : decide (i' < ts.length) = true := decide_eq_true hil
          go_wp2_with fail
          go_meet
          exact ⟨_, _, _, _, rfl, HGP, .inr ⟨_, hide ⟨HVE.out, rfl⟩⟩⟩
        · have hl1 : ¬ ((i' : Nat) : Int) < (ts.length : Nat) := by omega
          have hdn : decide (i' < ts.length) = false := decide_eq_false hil
          go_wp2_with fail
          go_meet
          exact ⟨_, _, _, _, rfl, HGP, .inr ⟨_, hide ⟨HVE.out, rfl⟩⟩⟩
  case rest =>
    obtain ⟨l, Al, cl, st, rfl, hgp, hcase⟩ := hcut
    have HGW := hide hgp.out
    clear hgp HGP
    have HBB := hide (tr_below HB1.out HGW.out.below)
    obtain ⟨A', c', i', e', a', hbk, hA', hi', hs'⟩ := HGW.out.rd.cell
    obtain ⟨k0, k1, k2, k3, k4, fz⟩ := blk5 hbk
    rcases hcase with h | ⟨y, h⟩
    · obtain ⟨rfl, hv⟩ := h.out
      obtain ⟨rfl, _⟩ := hs'
      have HVV := hide hv
      clear hbk hA' hi' hv h
      go_wp2_with fail
      refine bodyPost_ret (v := .tuple #[.slice Al l.length cl, .int .i64 0, .int .i64 0]) ?_ rfl (.inl ⟨l, _, B, HVV.out, rfl, HGW.out.rr, HBB.out⟩)
      simp [results, Tryz.results9, go_sem]
    · obtain ⟨hv, rfl⟩ := h.out
      obtain ⟨rfl, rfl, h0⟩ := hs'
      have HVV := hide hv
      have e1 : ¬ (((errAt s.size y).1 : Nat) : Int) = 0 := by omega
      have e2 : ((((errAt s.size y).1 : Nat) : Int) == 0) = false := beq_eq_false_iff_ne.2 e1
      have e3 : ((((errAt s.size y).1 : Nat) : Int) != 0) = true := by rw [bne, e2]; rfl
      have D3 : ∀ u, (Drn wc u).cell? ⟨bp, 3, none⟩ = some (.int .i64 ((errAt s.size y).1 : Int)) := fun _ => k3
      have D4 : ∀ u, (Drn wc u).cell? ⟨bp, 4, none⟩ = some (.int .i64 (errAt s.size y).2) := fun _ => k4
      have HBD := hide (tr_below HBB.out (below_drewX wc))
      have YN : Nonempty Unit := ⟨()⟩
      clear hbk hA' hi' hv h h0
      generalize hEA : errAt s.size y = EA at *
      have HEA := hide hEA
      clear hEA
      go_wp2_with fail
      refine wp_region_quietV (J := Unit) (Drn wc) () rfl (by kernel_rfl) (by kernel_rfl) ?_
      repeat (go_big_quiet_step (fail))
      refine wpQuiet_nil ?_
      rintro w9 ⟨u, rfl⟩
      go_wp2_with fail
      refine bodyPost_ret (v := .tuple #[.slice none 0 0, .int .i64 (EA.1 : Int), .int .i64 EA.2]) ?_ rfl (.inr ⟨y, HVV.out, ?_, HBD.out⟩)
      · simp [results, Tryz.results9, go_sem]
      · rw [HEA.out]
theorem gparse_any (s : BA) (w : World) (hs : s.size ≤ 1000000) :
    Calls Tryz.prog 9 #[.string s] w fun e w' => ∃ v, e = .returned (.tuple #[v, .int .i64 ((parseL (tx s)).2.1 : Int), .int .i64 (parseL (tx s)).2.2]) ∧ RlS w' v (parseL (tx s)).1 ∧ Below w.heap.size w w' := by
  have hz : (tx s).length = s.size := rfl
  obtain ⟨P, hP⟩ : ∃ P, parseL (tx s) = P := ⟨_, rfl⟩
  rw [hP]
  unfold parseL at hP
  by_cases he : (lex (tx s)).2.1 = 0
  · rw [if_pos he] at hP
    obtain ⟨ts, off, hlx⟩ : ∃ ts off, lex (tx s) = (ts, 0, off) := ⟨_, _, by rw [← he]⟩
    rw [hlx] at hP
    refine (gparse_run s w hs ts off hlx _ rfl).mono ?_
    rintro e w' (⟨l, v, B, h1, h2, h3, h4⟩ | ⟨x, h1, h2, h4⟩)
    · simp only [h1] at hP
      subst hP
      exact ⟨v, h2, rr_rls h3, h4⟩
    · simp only [h1] at hP
      subst hP
      exact ⟨_, h2, RlS.nil _, h4⟩
  · rw [if_neg he] at hP
    subst hP
    refine (gparse_err s w hs he).mono ?_
    rintro e w' ⟨h1, h2⟩
    exact ⟨_, h1, RlS.nil _, h2⟩
/-! The law that the rules' functions agree with the reference, walked. -/

set_option maxRecDepth 100000 in
set_option maxHeartbeats 16000000 in
theorem agrees_any (l : List Rl) (v : Value) (text : BA) (w : World) (hv : RlS w v l) (hlen : l.length ≤ maxLen) (hz : ∀ x ∈ l, RlM x) (ht : text.size ≤ maxLen) :
    Calls Tryz.prog 3 #[v, .string text] w fun e w' => e = .returned (.bool true) ∧ Below w.heap.size w w' := by
  have HH := hide (head_any w)
  have HF := hide (fun W (b : Below w.heap.size w W) => rfew_any l v 210 W (hv.below b) hlen (fun x hx => (hz x hx).many))
  have hfz := fun h => few_z (n := 210) (l := l) h hz
  have HV := hide (fun W (b : Below w.heap.size w W) => hv.below b)
  unfold maxLen at ht
  clear hz
  obtain ⟨A, c, rfl, _, _⟩ := hv
  go_enter Tryz.func3, Tryz.ntmps3
  go_wp2_with fail
  refine HH.out.mono ?_
  rintro _ w0 ⟨rfl, b0⟩
  have HB0 := hide b0
  clear b0
  go_wp2_with fail
  refine (HF.out w0 HB0.out).mono ?_
  rintro _ w1 ⟨rfl, b1⟩
  have HB1 := hide (bto HB0.out b1)
  clear b1 HF HH
  cases hf : fewL 210 l with
  | false =>
    clear hf hfz
    go_wp2_with fail
    go_ret
    exact ⟨rfl, HB1.out⟩
  | true =>
  obtain ⟨hl, hz⟩ := hfz hf
  clear hf hfz
  by_cases h6 : 21000 < text.size
  · have i6 : (21000 : Int) < (text.size : Int) := by omega
    clear h6
    go_wp2_with fail
    go_ret
    exact ⟨rfl, HB1.out⟩
  have i6 : ¬ (21000 : Int) < (text.size : Int) := by omega
  have HTX := hide (fun W (b : Below w.heap.size w W) => text_any l _ W (HV.out W b) (by omega) hz)
  have HGX := hide (fun W (b : Below w.heap.size w W) => gText_any l _ W (HV.out W b) (by omega) hz)
  have HVL := hide (fun W (b : Below w.heap.size w W) => pvalid_any l _ W (HV.out W b) (by omega) hz)
  have HGV := hide (fun W (b : Below w.heap.size w W) => gvalid_any l _ W (HV.out W b) (by omega) hz)
  have HPT := hide (fun W => parse_any text W (by omega))
  have HGP := hide (fun W => gparse_any text W (by omega))
  have hx1 : (parseL (tx text)).1.length ≤ 200 := parse_few
  have hx2 : ∀ x ∈ (parseL (tx text)).1, x.vals.length ≤ 1000000 := parse_vals
  obtain ⟨P, hP⟩ : ∃ P, parseL (tx text) = P := ⟨_, rfl⟩
  rw [hP] at HPT HGP hx1 hx2
  obtain ⟨x, n, o⟩ := P
  simp only at HPT HGP hx1 hx2
  have HS5 := hide (fun va vb W (ha : RlS W va x) (hb : RlS W vb x) => rSame_any x x va vb W ha hb (by omega) hx2)
  have hdx : decide (x = x) = true := decide_eq_true rfl
  rw [hdx] at HS5
  obtain ⟨T, hT⟩ : ∃ T, textL l = T := ⟨_, rfl⟩
  rw [hT] at HTX HGX
  obtain ⟨s, e⟩ := T
  simp only at HTX HGX
  obtain ⟨V, hV⟩ : ∃ V, validL l = V := ⟨_, rfl⟩
  rw [hV] at HVL HGV
  clear h6 hz hP hx1 hx2 hdx hT hV
  go_wp2_with fail
  refine (HTX.out w1 HB1.out).mono ?_
  rintro _ w2 ⟨rfl, b2⟩
  have HB2 := hide (bto HB1.out b2)
  clear b2 HTX
  go_wp2_with fail
  refine (HGX.out w2 HB2.out).mono ?_
  rintro _ w3 ⟨rfl, b3⟩
  have HB3 := hide (bto HB2.out b3)
  clear b3 HGX
  go_wp2_with fail
  refine (HPT.out w3).mono ?_
  rintro _ w4 ⟨va, rfl, ha, b4⟩
  have HA4 := hide ha
  obtain ⟨Ax, cx, rfl, _, _⟩ := id ha
  have HB4 := hide (bto HB3.out b4)
  clear b4 ha HPT
  go_wp2_with fail
  refine (HGP.out w4).mono ?_
  rintro _ w5 ⟨vb, rfl, hb, b5⟩
  have HA5 := hide (HA4.out.below b5)
  have HC5 := hide hb
  obtain ⟨Ay, cy, rfl, _, _⟩ := id hb
  have HB5 := hide (bto HB4.out b5)
  clear b5 hb HGP
  go_wp2_with fail
  refine (HS5.out _ _ w5 HA5.out HC5.out).mono ?_
  rintro _ w6 ⟨rfl, b6⟩
  have HB6 := hide (bto HB5.out b6)
  clear b6 HS5
  go_wp2_with fail
  refine (HVL.out w6 HB6.out).mono ?_
  rintro _ w7 ⟨rfl, b7⟩
  have HB7 := hide (bto HB6.out b7)
  clear b7 HVL
  go_wp2_with fail
  refine (HGV.out w7 HB7.out).mono ?_
  rintro _ w8 ⟨rfl, b8⟩
  have HB8 := hide (bto HB7.out b8)
  clear b8 HGV
  go_wp2_with fail
  go_ret
  exact ⟨rfl, HB8.out⟩
theorem agreeslaw (l : List Rl) (v : Value) (text : BA) (w : World) (h : RlsW w v l) (ht : text.size ≤ maxLen) :
    Calls Tryz.prog 3 #[v, .string text] w fun e w' => e = .returned (.bool true) ∧ Below w.heap.size w w' :=
  agrees_any l v text w h.rls h.len h.ok ht
end Go.Proofs.YtoodmhlefaepaaaGreat
