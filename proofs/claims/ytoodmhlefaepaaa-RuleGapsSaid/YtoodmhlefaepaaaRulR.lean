/-
  The law of gaps, walked.
-/
import Derived.Test.YtoodmhlefaepaaaRulQ
import Derived.Test.YtoodmhlefaepaaaPlainF
import Derived.BigFrame
namespace Go.Proofs.Ytoodmhlefaepaaa
open Go.RowKit Go.Proofs.PlLex Go.Proofs.PlRule

theorem run_append_whole {P : Program} (w : World) (base : Nat) (t ty e : TypeId) (i : TypeInfo) (z : Value) (size bytes : Nat) (ht : P.underlying t = some (.slice e)) (hi : P.info? e = some i) (hz : i.zero = some z)
    (hsize : i.size = size) (hby : i.bytes = bytes) (hzs : z.cells.size = size) (hsz : 0 < size)
    (v : Value) (n : Nat) (xs : List Value) (hown : w.ownsRow base e size v n xs)
    (A : Option Addr) (m c : Nat) (news : List Value) (hl : news.length = m * size) (hnews : m = 0 ∨ ∃ ad, A = some ad ∧ ∀ j u, news[j]? = some u → w.cell? (ad.add j) = some u) (h1 : ∀ u ∈ news, u.oneCell' = true)
    (h63 : n + m ≤ maxLen) (hbytes : (n + m) * bytes ≤ 140737488355328) (hbase : base ≤ w.heap.size) :
    ∃ v' w', (Builtin.append_ #[t, t] ty #[v, .slice A m c]).run P w = .ok v' w' ∧ w'.ownsRow base e size v' (n + m) (xs ++ news) ∧ w.grownBy w' v.ownBlock := by
  cases A with
  | some ad =>
    have hn : ∀ j u, news[j]? = some u → w.cell? (ad.add j) = some u := by
      rcases hnews with h | ⟨ad', e, h⟩
      · subst h
        rw [Nat.zero_mul] at hl
        rw [List.length_eq_zero_iff.1 hl]
        intro j u h
        simp at h
      · cases e; exact h
    obtain ⟨v', w', h2, h3, h4, _⟩ := run_append_own (P := P) w base t ty e i z size bytes ht hi hz hsize hby hzs hsz v n xs hown ad m c news hl hn h1 h63 hbytes hbase
    exact ⟨v', w', h2, h3, h4⟩
  | none =>
    obtain rfl : m = 0 := by
      rcases hnews with h | ⟨ad', e, h⟩
      · exact h
      · cases e
    rw [Nat.zero_mul] at hl
    rw [List.length_eq_zero_iff.1 hl, List.append_nil]
    refine ⟨v, w, ?_, hown, grown_refl _ _⟩
    rcases hown.2 with ⟨rfl, rfl⟩ | ⟨g, cap, cur, rfl, _, _, hnc, _⟩
    · simp [Builtin.append_, run_underlying ht, sizeOf, typeInfo, hi, Builtin.lenOf, Builtin.firstCells]
    · simp [Builtin.append_, run_underlying ht, sizeOf, typeInfo, hi, Builtin.lenOf, Builtin.firstCells, hnc, storeCells]
theorem wantList_append {P : Program} {w : World} {ops : Array Oper} {rest : List Oper} {o : Oper} {a : Act} {Q : Exit → Act → World → Prop} (hw : Region.wanted o (yielded ops a.tmps) = true) (s x : Operand) (t : TypeId)
    (ho : o.op = .call { callee := .builtin .append, args := #[s, x], argTypes := #[t, t] })
    (base : Nat) (e : TypeId) (i : TypeInfo) (z : Value) (size bytes : Nat) (ht : P.underlying t = some (.slice e)) (hi : P.info? e = some i) (hz : i.zero = some z)
    (hsize : i.size = size) (hby : i.bytes = bytes) (hzs : z.cells.size = size) (hsz : 0 < size)
    (v : Value) (n : Nat) (xs : List Value) (hs : a.eval s = v) (hown : w.ownsRow base e size v n xs)
    (A : Option Addr) (m c : Nat) (news : List Value) (hx : a.eval x = .slice A m c) (hl : news.length = m * size) (hnews : m = 0 ∨ ∃ ad, A = some ad ∧ ∀ j u, news[j]? = some u → w.cell? (ad.add j) = some u) (h1 : ∀ u ∈ news, u.oneCell' = true)
    (h63 : n + m ≤ maxLen) (hbytes : (n + m) * bytes ≤ 140737488355328) (hbase : base ≤ w.heap.size)
    (h : ∀ v' w', w'.ownsRow base e size v' (n + m) (xs ++ news) → w.grownBy w' v.ownBlock → wpList P ops Q rest (a.put o.dst v') w') : wpList P ops Q (o :: rest) a w := by
  refine BigFrame.wpList_want hw fun _ hK => ?_
  obtain ⟨v', w', hr, h2, h3⟩ := run_append_whole (P := P) w base t o.type e i z size bytes ht hi hz hsize hby hzs hsz v n xs hown A m c news hl hnews h1 h63 hbytes hbase
  unfold Oper.wp execOp
  simp only [ho, resolve, invoke, builtin, Sem.run_bind, Sem.run_pure, Result.andThen_ok, List.map_toArray, List.map_cons, List.map_nil, hs, hx, hr]
  exact hK _ _ (h v' w' h2 h3)
theorem cellsRs_len (l : List (Rl × Value)) : (cellsRs l).length = l.length * 8 := by
  induction l with
  | nil => rfl
  | cons x l ih =>
    have : (cellsRl x).length = 8 := rfl
    rw [cellsRs, List.length_append, ih, List.length_cons]
    omega
theorem rlo_pairs {W : World} {g : Nat} (L : List Rl) : ∀ o, RlO W g o L → ∃ ps : List (Rl × Value), ps.map Prod.fst = L ∧ (∀ x ∈ ps, StS W x.2 x.1.vals) ∧ ∀ j u, (cellsRs ps)[j]? = some u → W.cell? ⟨g, o + j, none⟩ = some u := by
  induction L with
  | nil => intro o _; exact ⟨[], rfl, (fun _ h => nomatch h), fun j u h => by simp [cellsRs] at h⟩
  | cons x L ih =>
    intro o h
    obtain ⟨vv, hx⟩ := h 0 x rfl
    rw [Nat.zero_mul, Nat.add_zero] at hx
    obtain ⟨ps, h1, h2, h3⟩ := ih (o + 8) (fun i y hy => by
      have := h (i + 1) y hy
      rw [show o + (i + 1) * 8 = o + 8 + i * 8 by omega] at this
      exact this)
    refine ⟨(x, vv) :: ps, by rw [List.map_cons, h1], fun y hy => ?_, fun j u hj => ?_⟩
    · rcases List.mem_cons.1 hy with rfl | hy
      · exact hx.vals
      · exact h2 y hy
    · have hl : (cellsRl (x, vv)).length = 8 := rfl
      rw [cellsRs] at hj
      by_cases h8 : j < 8
      · rw [List.getElem?_append_left (by omega)] at hj
        obtain ⟨c0, c1, c2, c3, c4, c5, c6, c7, _⟩ := hx
        obtain rfl | rfl | rfl | rfl | rfl | rfl | rfl | rfl : j = 0 ∨ j = 1 ∨ j = 2 ∨ j = 3 ∨ j = 4 ∨ j = 5 ∨ j = 6 ∨ j = 7 := by omega
        all_goals (simp only [cellsRl, List.getElem?_cons_zero, List.getElem?_cons_succ, Option.some.injEq] at hj; subst hj; assumption)
      · rw [List.getElem?_append_right (by omega), hl] at hj
        have := h3 (j - 8) u hj
        rw [show o + 8 + (j - 8) = o + j by omega] at this
        exact this
theorem addr_more (g o j : Nat) : (⟨g, o, none⟩ : Addr).add j = ⟨g, o + j, none⟩ := by
  simp only [Addr.add]
  split <;> simp_all
/-- Rules that lie somewhere, as pairs of the rule and its slice of values. -/
theorem rls_pairs {W : World} {A : Option Addr} {n c : Nat} {L : List Rl} (h : RlS W (.slice A n c) L) : n = L.length ∧ ∃ ps : List (Rl × Value), ps.map Prod.fst = L ∧ (∀ x ∈ ps, StS W x.2 x.1.vals) ∧ (L.length = 0 ∨ ∃ ad, A = some ad ∧ ad.block < W.heap.size ∧ ∀ j u, (cellsRs ps)[j]? = some u → W.cell? (ad.add j) = some u) := by
  obtain ⟨A', c', he, _, h⟩ := h
  cases he
  refine ⟨rfl, ?_⟩
  rcases h with rfl | ⟨g, o, rfl, hg, hp⟩
  · exact ⟨[], rfl, (fun _ h => nomatch h), .inl rfl⟩
  · obtain ⟨ps, h1, h2, h3⟩ := rlo_pairs L o hp
    exact ⟨ps, h1, h2, .inr ⟨_, rfl, hg, fun j u hj => by rw [addr_more]; exact h3 j u hj⟩⟩
theorem rls_of_row {B : Nat} {l : List (Rl × Value)} {v : Value} {W : World} (h : W.ownsRow B 39 8 v l.length (cellsRs l)) (hv : ∀ x ∈ l, StS W x.2 x.1.vals) : RlS W v (l.map Prod.fst) := by
  have hlen : (l.map Prod.fst).length = l.length := by simp
  rcases h.2 with ⟨rfl, h0⟩ | ⟨g, cap, cur, rfl, hg, hh, hc, _⟩
  · exact ⟨none, 0, by rw [hlen, h0], by omega, .inl (by simp [List.length_eq_zero_iff.1 h0])⟩
  · refine ⟨some ⟨g, 0, none⟩, cap, by rw [hlen], by omega, .inr ⟨g, 0, rfl, lt_of_blk hh, fun i y hy => ?_⟩⟩
    rw [List.getElem?_map] at hy
    obtain ⟨x, hx, rfl⟩ := Option.map_eq_some_iff.1 hy
    have key : ∀ j u, j < 8 → (cellsRl x)[j]? = some u → W.cell? ⟨g, 0 + i * 8 + j, none⟩ = some u := by
      intro j u hj hu
      have := World.ownsRow.cells h (g := g) rfl (i * 8 + j) u (by rw [cellsRs_get l i x hx j hj, hu])
      rw [addr_add] at this
      rw [Nat.zero_add]
      exact this
    exact ⟨x.2, key 0 _ (by omega) rfl, key 1 _ (by omega) rfl, key 2 _ (by omega) rfl, key 3 _ (by omega) rfl, key 4 _ (by omega) rfl, key 5 _ (by omega) rfl, key 6 _ (by omega) rfl, key 7 _ (by omega) rfl, hv x (List.mem_of_getElem? hx)⟩
theorem cellsRs_one {l : List (Rl × Value)} {W : World} (hv : ∀ x ∈ l, StS W x.2 x.1.vals) : ∀ u ∈ cellsRs l, u.oneCell' = true := by
  induction l with
  | nil => intro u hu; cases hu
  | cons x l ih =>
    intro u hu
    rw [cellsRs] at hu
    rcases List.mem_append.1 hu with hu | hu
    · obtain ⟨A, c, he, _⟩ := hv x (List.mem_cons_self ..)
      simp only [cellsRl, List.mem_cons, List.not_mem_nil, or_false] at hu
      rcases hu with rfl | rfl | rfl | rfl | rfl | rfl | rfl | rfl
      all_goals (first | rfl | (rw [he]; rfl))
    · exact ih (fun y hy => hv y (List.mem_cons_of_mem _ hy)) u hu
theorem tx_app (a b : BA) : tx (a ++ b) = tx a ++ tx b := app_data a b
theorem parse_bnd (s : BA) (hs : s.size ≤ 5000) : 0 ≤ (parseL (tx s)).2.2 ∧ (parseL (tx s)).2.2 ≤ 1000000 := by
  have := parse_off (l := tx s) (N := 1000000) (show s.size ≤ 1000000 by omega) hs (lex_offs (tx s)).2
  exact ⟨this.1, by have := this.2; omega⟩
theorem parse_vals {l : L} : ∀ x ∈ (parseL l).1, x.vals.length ≤ 1000000 := by
  intro x hx
  by_cases h : (parseL l).2.1 = 0
  · obtain ⟨xs, _, _, e, hg, _, _⟩ := parse_good h
    rw [e] at hx
    have := gd_many (hg x hx)
    omega
  · rw [parse_none h] at hx
    cases hx
theorem parse_few {l : L} : (parseL l).1.length ≤ 200 := by
  by_cases h : (parseL l).2.1 = 0
  · obtain ⟨xs, _, _, e, _, _, h5⟩ := parse_good h
    rw [e]
    exact h5
  · rw [parse_none h]
    exact Nat.zero_le _
set_option maxRecDepth 100000 in
set_option maxHeartbeats 16000000 in
theorem gapslaw_any (one two g : BA) (m1 : one.size ≤ maxLen) (m2 : two.size ≤ maxLen) (m3 : g.size ≤ maxLen) (w : World) :
    Calls Try.prog 4 #[.string one, .string two, .string g] w fun e w' => e = .returned (.bool true) ∧ Below w.heap.size w w' := by
  obtain ⟨i0, hi, hz0, hz1, hz2⟩ := info_split info_rule
  have HI := hide hi
  have HZ0 := hide hz0
  have HZ1 := hide hz1
  have HZ2 := hide hz2
  clear hi hz0 hz1 hz2
  unfold maxLen at m1 m2
  have HGA := hide (fun w => gaps_any g w m3)
  unfold maxLen at m3
  have HH := hide (head_any w)
  by_cases h1 : 2000 < one.size
  · have i1 : (2000 : Int) < (one.size : Int) := by omega
    clear h1
    go_enter Try.func4, Try.ntmps4
    go_wp2_with fail
    refine HH.out.mono ?_
    rintro _ w0 ⟨rfl, b0⟩
    have HB0 := hide b0
    clear b0
    go_wp2_with fail
    go_ret
    exact ⟨rfl, HB0.out⟩
  have i1 : ¬ (2000 : Int) < (one.size : Int) := by omega
  by_cases h2 : 2000 < two.size
  · have i2 : (2000 : Int) < (two.size : Int) := by omega
    clear h1 h2
    go_enter Try.func4, Try.ntmps4
    go_wp2_with fail
    refine HH.out.mono ?_
    rintro _ w0 ⟨rfl, b0⟩
    have HB0 := hide b0
    clear b0
    go_wp2_with fail
    go_ret
    exact ⟨rfl, HB0.out⟩
  have i2 : ¬ (2000 : Int) < (two.size : Int) := by omega
  by_cases h3 : 300 < g.size
  · have i3 : (300 : Int) < (g.size : Int) := by omega
    clear h1 h2 h3
    go_enter Try.func4, Try.ntmps4
    go_wp2_with fail
    refine HH.out.mono ?_
    rintro _ w0 ⟨rfl, b0⟩
    have HB0 := hide b0
    clear b0
    go_wp2_with fail
    go_ret
    exact ⟨rfl, HB0.out⟩
  have i3 : ¬ (300 : Int) < (g.size : Int) := by omega
  cases hg : gaps (tx g) with
  | false =>
    have HG2 : Hid (∀ w, Calls Try.prog 11 #[.string g] w fun e w' => e = .returned (.bool false) ∧ w = w') := hide (fun w => by have := HGA.out w; rw [show gaps g.data.toList = false from hg] at this; exact this)
    clear h1 h2 h3 hg HGA
    go_enter Try.func4, Try.ntmps4
    go_wp2_with fail
    refine HH.out.mono ?_
    rintro _ w0 ⟨rfl, b0⟩
    have HB0 := hide b0
    clear b0
    go_wp2_with fail
    refine (HG2.out w0).mono ?_
    rintro _ _ ⟨rfl, rfl⟩
    go_wp2_with fail
    go_ret
    exact ⟨rfl, HB0.out⟩
  | true =>
    have HG2 : Hid (∀ w, Calls Try.prog 11 #[.string g] w fun e w' => e = .returned (.bool true) ∧ w = w') := hide (fun w => by have := HGA.out w; rw [show gaps g.data.toList = true from hg] at this; exact this)
    have hF := gaps_front (tx g) (tx two) hg (show g.size ≤ 300 by omega) (show two.size ≤ 2000 by omega)
    have hBO := gaps_both (tx g) (tx one) (tx two) hg (show g.size ≤ 300 by omega) (show one.size ≤ 2000 by omega) (show two.size ≤ 2000 by omega)
    have hsz : ∀ a b : BA, (a ++ b).size = a.size + b.size := app_size
    have hnl : (⟨#[10]⟩ : BA).size = 1 := rfl
    obtain ⟨G, hG⟩ : ∃ G, g ++ (⟨#[10]⟩ : BA) = G := ⟨_, rfl⟩
    have zG : G.size = g.size + 1 := by rw [← hG, hsz]; rfl
    obtain ⟨X, hX⟩ : ∃ X, G ++ two = X := ⟨_, rfl⟩
    have zX : X.size = G.size + two.size := by rw [← hX, hsz]
    obtain ⟨S1, hS1⟩ : ∃ X, one ++ (⟨#[10]⟩ : BA) = X := ⟨_, rfl⟩
    have z1 : S1.size = one.size + 1 := by rw [← hS1, hsz]; rfl
    obtain ⟨S2, hS2⟩ : ∃ X, S1 ++ G = X := ⟨_, rfl⟩
    have z2 : S2.size = S1.size + G.size := by rw [← hS2, hsz]
    obtain ⟨S3, hS3⟩ : ∃ X, S2 ++ two = X := ⟨_, rfl⟩
    have z3 : S3.size = S2.size + two.size := by rw [← hS3, hsz]
    obtain ⟨S4, hS4⟩ : ∃ X, S3 ++ (⟨#[10]⟩ : BA) = X := ⟨_, rfl⟩
    have z4 : S4.size = S3.size + 1 := by rw [← hS4, hsz]; rfl
    obtain ⟨S5, hS5⟩ : ∃ X, S4 ++ g = X := ⟨_, rfl⟩
    have z5 : S5.size = S4.size + g.size := by rw [← hS5, hsz]
    have eX : tx X = tx g ++ 10 :: tx two := by rw [← hX, ← hG, tx_app, tx_app, List.append_assoc]; rfl
    have e5 : tx S5 = tx one ++ 10 :: (tx g ++ 10 :: (tx two ++ 10 :: tx g)) := by
      rw [← hS5, ← hS4, ← hS3, ← hS2, ← hS1, ← hG]
      simp only [tx_app, List.append_assoc]
      rfl
    have HP1 := hide (fun w => parse_any one w (by omega))
    have HP2 := hide (fun w => parse_any two w (by omega))
    have HPX := hide (fun w => parse_any X w (by omega))
    have HP5 := hide (fun w => parse_any S5 w (by omega))
    have bX := parse_bnd X (by omega)
    have b2 := parse_bnd two (by omega)
    have v2 : ∀ x ∈ (parseL (tx two)).1, x.vals.length ≤ 1000000 := parse_vals
    have vX : ∀ x ∈ (parseL (tx X)).1, x.vals.length ≤ 1000000 := parse_vals
    have v1 : ∀ x ∈ (parseL (tx one)).1, x.vals.length ≤ 1000000 := parse_vals
    have l1 : (parseL (tx one)).1.length ≤ 200 := parse_few
    have l2 : (parseL (tx two)).1.length ≤ 200 := parse_few
    rw [eX] at HPX bX vX
    rw [e5] at HP5
    rw [hF.1] at HPX vX
    rw [hF.2.1] at HPX
    have hF3 := hF.2.2
    obtain ⟨P1, q1⟩ : ∃ P, parseL (tx one) = P := ⟨_, rfl⟩
    obtain ⟨P2, q2⟩ : ∃ P, parseL (tx two) = P := ⟨_, rfl⟩
    obtain ⟨P5, q5⟩ : ∃ P, parseL (tx one ++ 10 :: (tx g ++ 10 :: (tx two ++ 10 :: tx g))) = P := ⟨_, rfl⟩
    obtain ⟨oX, qX⟩ : ∃ P, (parseL (tx g ++ 10 :: tx two)).2.2 = P := ⟨_, rfl⟩
    rw [q1] at HP1 hBO v1 l1
    rw [q2] at HP2 hBO b2 v2 hF3 HPX vX l2
    rw [q5] at HP5 hBO
    rw [qX] at HPX bX hF3
    clear q1 q2 q5 qX eX e5 hF
    obtain ⟨L1, n1, o1⟩ := P1
    obtain ⟨L2, n2, o2⟩ := P2
    simp only at HP1 HP2 HPX HP5 hBO b2 v2 hF3 v1 l1 l2
    have C1 : ∀ w, (Op.stringOp .add g (⟨#[10]⟩ : BA)).run Try.prog w = .ok (.string G) w := fun w => by rw [← hG]; exact cat_run g _ (by omega) w
    have C2 : ∀ w, (Op.stringOp .add G two).run Try.prog w = .ok (.string X) w := fun w => by rw [← hX]; exact cat_run G _ (by omega) w
    have C3 : ∀ w, (Op.stringOp .add one (⟨#[10]⟩ : BA)).run Try.prog w = .ok (.string S1) w := fun w => by rw [← hS1]; exact cat_run one _ (by omega) w
    have C4 : ∀ w, (Op.stringOp .add S1 G).run Try.prog w = .ok (.string S2) w := fun w => by rw [← hS2]; exact cat_run S1 _ (by omega) w
    have C5 : ∀ w, (Op.stringOp .add S2 two).run Try.prog w = .ok (.string S3) w := fun w => by rw [← hS3]; exact cat_run S2 _ (by omega) w
    have C6 : ∀ w, (Op.stringOp .add S3 (⟨#[10]⟩ : BA)).run Try.prog w = .ok (.string S4) w := fun w => by rw [← hS4]; exact cat_run S3 _ (by omega) w
    have C7 : ∀ w, (Op.stringOp .add S4 g).run Try.prog w = .ok (.string S5) w := fun w => by rw [← hS5]; exact cat_run S4 _ (by omega) w
    have HZG := hide zG
    have GB : G.size ≤ 301 := by omega
    clear hG hX hS1 hS2 hS3 hS4 hS5 zG zX z1 z2 z3 z4 z5 hnl hsz h1 h2 h3 hg HGA
    have HF3 := hide hF3
    have HBO := hide hBO
    have HV1 := hide v1
    have HV2 := hide v2
    clear hF3 hBO v1 v2 vX
    go_enter Try.func4, Try.ntmps4
    go_wp2_with fail
    refine HH.out.mono ?_
    rintro _ w0 ⟨rfl, b0⟩
    have HB0 := hide b0
    clear b0
    go_wp2_with fail
    refine (HG2.out w0).mono ?_
    rintro _ _ ⟨rfl, rfl⟩
    go_wp2_with fail
    refine (HP1.out w0).mono ?_
    rintro _ w1 ⟨va, rfl, ha, b1⟩
    obtain ⟨Aa, ca, rfl, _, _⟩ := id ha
    have HB1 := hide (bto HB0.out b1)
    have HA1 := hide ha
    clear ha b1
    go_wp2_with fail
    refine (HP2.out w1).mono ?_
    rintro _ w2 ⟨vb, rfl, hb, b3⟩
    obtain ⟨Ab, cb, rfl, _, _⟩ := id hb
    have HB2 := hide (bto HB1.out b3)
    have HA2 := hide (HA1.out.below b3)
    have HL2 := hide hb
    clear hb b3
    go_wp2_with fail
    refine (HPX.out w2).mono ?_
    rintro _ w3 ⟨vc, rfl, hc, b3⟩
    obtain ⟨Ac, cc, rfl, _, _⟩ := id hc
    have HB3 := hide (bto HB2.out b3)
    have HA3 := hide (HA2.out.below b3)
    have HL3 := hide (HL2.out.below b3)
    have HS := hide (rSame_any L2 L2 _ _ w3 HL3.out hc (by omega) HV2.out)
    rw [decide_eq_true rfl] at HS
    clear hc b3 HP1 HP2 HPX HG2 HH
    go_wp2_with fail
    refine HS.out.mono ?_
    rintro _ w4 ⟨rfl, b4⟩
    have HB4 := hide (bto HB3.out b4)
    have HA4 := hide (HA3.out.below b4)
    have HL4 := hide (HL3.out.below b4)
    clear b4 HB0 HB1 HB2 HB3 HA1 HA2 HA3 HL2 HL3
    by_cases hn2 : n2 = 0
    · subst hn2
      have k2 : ((0 : Nat) : Int) = 0 := rfl
      by_cases hn1 : n1 = 0
      · subst hn1
        by_cases hl : L1.length + L2.length ≤ 200
        · have j1 : ¬ (200 : Int) < (L1.length : Int) + (L2.length : Int) := by omega
          have hP5 := HBO.out rfl rfl hl
          subst hP5
          go_wp2_with fail
          refine (HP5.out w4).mono ?_
          rintro _ w5 ⟨vd, rfl, hd, b5⟩
          simp only at hd ⊢
          have HB5 := hide (bto HB4.out b5)
          obtain ⟨_, p1, e1, s1, c1⟩ := rls_pairs (HA4.out.below b5)
          obtain ⟨_, p2, e2, s2, c2⟩ := rls_pairs (HL4.out.below b5)
          obtain ⟨u5, hu5⟩ : ∃ u, w5.alloc (.cells #[] 39) = u := ⟨_, rfl⟩
          have g5 : Below w5.heap.size w5 u5 := by rw [← hu5]; exact (Below.refl _ _).alloc (Nat.le_refl _) _
          have o5 : u5.ownsRow w5.heap.size 39 8 (.slice (some ⟨w5.heap.size, 0, none⟩) 0 0) 0 [] := by rw [← hu5]; exact World.ownsRow_made w5 #[] 0 (Nat.le_refl _) (by unfold maxLen; omega) rfl
          have E1 : p1.length = L1.length := by rw [← e1]; simp
          have E2 : p2.length = L2.length := by rw [← e2]; simp
          have n1 : ∀ W, Below w5.heap.size w5 W → L1.length = 0 ∨ ∃ ad, Aa = some ad ∧ ∀ j u, (cellsRs p1)[j]? = some u → W.cell? (ad.add j) = some u := fun W hb => by
            rcases c1 with h | ⟨ad, h1, h2, h3⟩
            · exact .inl h
            · exact .inr ⟨ad, h1, fun j u hj => (hb.cell (p := ad.add j) (by unfold Addr.add; split <;> exact h2)).trans (h3 j u hj)⟩
          have n2 : ∀ W, Below w5.heap.size w5 W → L2.length = 0 ∨ ∃ ad, Ab = some ad ∧ ∀ j u, (cellsRs p2)[j]? = some u → W.cell? (ad.add j) = some u := fun W hb => by
            rcases c2 with h | ⟨ad, h1, h2, h3⟩
            · exact .inl h
            · exact .inr ⟨ad, h1, fun j u hj => (hb.cell (p := ad.add j) (by unfold Addr.add; split <;> exact h2)).trans (h3 j u hj)⟩
          have HN1 := hide n1
          have HN2 := hide n2
          have HS1 := hide s1
          have HS2 := hide s2
          have HE1 := hide E1
          have HE2 := hide E2
          have HM1 := hide e1
          have HM2 := hide e2
          have HG5 := hide g5
          have HO5 := hide o5
          have HD5 := hide hd
          clear hd b5 HA4 HL4 HB4 HP5 C1 C2 C3 C4 C5 C6 C7 HS HF3 HBO n1 n2 s1 s2 E1 E2 g5 o5 e1 e2 c1 c2
          go_wp2_with (at_builtin; go_must (refine wantList_append (by kernel_rfl) (.tmp 120) (.tmp 121) 22 rfl w5.heap.size 39 i0 (.agg #[.bool false, .string ⟨#[]⟩, .int .i64 0, .string ⟨#[]⟩, .string ⟨#[]⟩, .int .i64 0, .string ⟨#[]⟩, .slice none 0 0]) 8 112 Try.underlying22 HI.out HZ0.out HZ1.out HZ2.out rfl (by decide) (.slice (some ⟨w5.heap.size, 0, none⟩) 0 0) 0 [] rfl HO5.out Aa L1.length ca (cellsRs p1) rfl (by rw [cellsRs_len, HE1.out]) (HN1.out _ HG5.out) (cellsRs_one HS1.out) (by unfold maxLen; omega) (by omega) HG5.out.size ?_))
          intro v6 w6 o6 r6
          have g6 : Below w5.heap.size w5 w6 := below_row HG5.out r6 (fun r hr => own_blk HO5.out hr)
          have HO6 := hide o6
          have HG6 := hide g6
          clear o6 r6 g6 hu5
          go_wp2_with (at_builtin; go_must (refine wantList_append (by kernel_rfl) (.tmp 122) (.tmp 123) 22 rfl w5.heap.size 39 i0 (.agg #[.bool false, .string ⟨#[]⟩, .int .i64 0, .string ⟨#[]⟩, .string ⟨#[]⟩, .int .i64 0, .string ⟨#[]⟩, .slice none 0 0]) 8 112 Try.underlying22 HI.out HZ0.out HZ1.out HZ2.out rfl (by decide) v6 L1.length (cellsRs p1) rfl HO6.out Ab L2.length cb (cellsRs p2) rfl (by rw [cellsRs_len, HE2.out]) (HN2.out _ HG6.out) (cellsRs_one HS2.out) (by unfold maxLen; omega) (by omega) HG6.out.size ?_))
          intro v7 w7 o7 r7
          have g7 : Below w5.heap.size w5 w7 := below_row HG6.out r7 (fun r hr => own_blk HO6.out hr)
          have hv7 : RlS w7 v7 (L1 ++ L2) := by
            have := rls_of_row (l := p1 ++ p2) (v := v7) (W := w7) (B := w5.heap.size) (by rw [cellsRs_app, List.length_append, HE1.out, HE2.out]; exact o7) (fun x hx => by
              rcases List.mem_append.1 hx with hx | hx
              · exact (HS1.out x hx).below g7
              · exact (HS2.out x hx).below g7)
            rw [List.map_append, HM1.out, HM2.out] at this
            exact this
          have HS7 := hide (rSame_any (L1 ++ L2) (L1 ++ L2) _ _ w7 (HD5.out.below g7) hv7 (by rw [List.length_append]; omega) (fun x hx => by
            rcases List.mem_append.1 hx with hx | hx
            · exact HV1.out x hx
            · exact HV2.out x hx))
          rw [decide_eq_true rfl] at HS7
          have HB7 := hide (bto HB5.out g7)
          clear o7 r7 g7 hv7
          go_wp2_with fail
          refine HS7.out.mono ?_
          rintro _ w8 ⟨rfl, b8⟩
          have HB8 := hide (bto HB7.out b8)
          clear b8
          go_wp2_with fail
          go_ret
          exact ⟨rfl, HB8.out⟩
        · have j1 : (200 : Int) < (L1.length : Int) + (L2.length : Int) := by omega
          clear hl
          go_wp2_with fail
          go_ret
          exact ⟨rfl, HB4.out⟩
      · have j1 : ¬ ((n1 : Int) = 0) := by omega
        have j2 : ((n1 : Int) == 0) = false := by simpa using hn1
        clear hn1
        go_wp2_with fail
        go_ret
        exact ⟨rfl, HB4.out⟩
    · have k2 : ¬ ((n2 : Int) = 0) := by omega
      have k3 : ((n2 : Int) == 0) = false := by simpa using hn2
      have k4 : oX = o2 + (G.size : Nat) := by rw [HZG.out]; exact HF3.out hn2
      subst k4
      clear hn2
      go_wp2_with fail
      all_goals (go_ret; exact ⟨rfl, HB4.out⟩)
end Go.Proofs.Ytoodmhlefaepaaa
