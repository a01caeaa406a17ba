/-
  The law of the best name, walked.
-/
import Derived.Test.YtjniicmhndflpaaNamR
namespace Go.Proofs.Ytjniicmhndflpaa
open Go.RowKit Go.Proofs.PlLex Go.Proofs.PlName

theorem fewS_facts {n : Nat} {l : List ByteArray} (h : fewS n l = true) : l.length ≤ n ∧ ∀ t ∈ l, t.size ≤ 30 := by
  unfold fewS at h
  simp only [Bool.and_eq_true, decide_eq_true_eq, List.all_eq_true] at h
  exact h

section
variable {P : Program} (w : World)
/-- append of the slice nil. -/
theorem run_append_nil (t ty e : TypeId) (i : TypeInfo) (ht : P.underlying t = some (.slice e)) (hi : P.info? e = some i) (base size : Nat) (v : Value) (n : Nat) (xs : List Value) (hown : w.ownsRow base e size v n xs) (c : Nat) :
    (Builtin.append_ #[t, t] ty #[v, .slice none 0 c]).run P w = .ok v w := by
  rcases hown.2 with ⟨rfl, rfl⟩ | ⟨g, cap, cur, rfl, _, _, hnc, _⟩
  · simp [Builtin.append_, run_underlying ht, sizeOf, typeInfo, hi, Builtin.lenOf, Builtin.firstCells]
  · simp [Builtin.append_, run_underlying ht, sizeOf, typeInfo, hi, Builtin.lenOf, Builtin.firstCells, hnc, storeCells]
/-- append of whatever slice came in, onto a row of the call's own. -/
theorem wpList_append_src {ops : Array Oper} {rest : List Oper} {o : Oper} {a : Act} {Q : Exit → Act → World → Prop} (hgd : o.guard = none) (s x : Operand) (t : TypeId)
    (ho : o.op = .call { callee := .builtin .append, args := #[s, x], argTypes := #[t, t] })
    (base : Nat) (e : TypeId) (i : TypeInfo) (z : Value) (size bytes : Nat) (ht : P.underlying t = some (.slice e)) (hi : P.info? e = some i) (hz : i.zero = some z)
    (hsize : i.size = size) (hby : i.bytes = bytes) (hzs : z.cells.size = size) (hsz : 0 < size)
    (v : Value) (n : Nat) (xs : List Value) (hs : a.eval s = v) (hown : w.ownsRow base e size v n xs)
    (A : Option Addr) (m c : Nat) (news : List Value) (hx : a.eval x = .slice A m c) (hl : news.length = m * size) (hA : A = none → m = 0) (hnews : ∀ ad, A = some ad → ∀ j u, news[j]? = some u → w.cell? (ad.add j) = some u) (h1 : ∀ u ∈ news, u.oneCell' = true)
    (h63 : n + m ≤ maxLen) (hbytes : (n + m) * bytes ≤ 140737488355328) (hbase : base ≤ w.heap.size)
    (h : ∀ v' w', w'.ownsRow base e size v' (n + m) (xs ++ news) → w.grownBy w' v.ownBlock → wpList P ops Q rest (a.put o.dst v') w') : wpList P ops Q (o :: rest) a w := by
  refine wpList_plain hgd fun K hK => ?_
  have hrun : ∃ v' w', (Builtin.append_ #[t, t] o.type #[v, .slice A m c]).run P w = .ok v' w' ∧ w'.ownsRow base e size v' (n + m) (xs ++ news) ∧ w.grownBy w' v.ownBlock := by
    cases A with
    | none =>
      have hm := hA rfl
      subst hm
      have hn : news = [] := List.eq_nil_of_length_eq_zero (by simpa using hl)
      subst hn
      exact ⟨v, w, run_append_nil w t o.type e i ht hi base size v n xs hown c, by simpa using hown, World.grownBy.refl w _⟩
    | some ad =>
      obtain ⟨v', w', hr, h2, h3, _, _⟩ := run_append_own_at (P := P) w base t o.type e i z size bytes ht hi hz hsize hby hzs hsz v n xs hown ad m c news hl (hnews ad rfl) h1 h63 hbytes hbase
      exact ⟨v', w', hr, h2, h3⟩
  obtain ⟨v', w', hr, h2, h3⟩ := hrun
  unfold Oper.wp execOp
  simp only [ho, resolve, invoke, builtin, Sem.run_bind, Sem.run_pure, Result.andThen_ok, List.map_toArray, List.map_cons, List.map_nil, hs, hx, hr]
  exact hK _ _ (h v' w' h2 h3)
end

theorem StS.src {W : World} {v : Value} {r : List ByteArray} (h : StS W v r) : ∃ A c, v = .slice A r.length c ∧ (A = none → r.length = 0) ∧ ∀ ad, A = some ad → ∀ j u, (strsV r)[j]? = some u → W.cell? (ad.add j) = some u := by
  obtain ⟨A, c, hv, _, h⟩ := h
  refine ⟨A, c, hv, fun e => ?_, fun ad e => ?_⟩
  · rcases h with h | ⟨g, o, h, _⟩
    · rw [h]; rfl
    · rw [e] at h; cases h
  · rcases h with h | ⟨g, o, h, _, hp⟩
    · subst h; intro j u hj; simp [strsV] at hj
    · rw [e] at h
      cases h
      intro j u hj
      have e9 : Addr.add ⟨g, o, none⟩ j = ⟨g, o + j, none⟩ := by unfold Addr.add; split <;> simp_all
      rw [e9]
      simp only [strsV, List.getElem?_map, Option.map_eq_some_iff] at hj
      obtain ⟨a, ha, rfl⟩ := hj
      exact hp j a ha
theorem strsV_one (r : List ByteArray) : ∀ u ∈ strsV r, u.oneCell' = true := by
  intro u hu
  simp only [strsV, List.mem_map] at hu
  obtain ⟨a, _, rfl⟩ := hu
  rfl

set_option maxRecDepth 100000 in
set_option maxHeartbeats 16000000 in
theorem best_skip (l : List Tg) (v : Value) (L : List ByteArray) (vl : Value) (further : ByteArray) (w : World) (hv : TgS w v l) (hl : l.length ≤ maxLen) (hvl : StS w vl L) (hL : L.length ≤ maxLen)
    (h : ((fewT 70 l && fewS 20 L) = true ∧ ¬ 30 < further.size ∧ tagsB l = true) → False) :
    Calls Try.prog 5 #[v, vl, .string further] w fun e w' => e = .returned (.bool true) ∧ Below w.heap.size w w' := by
  have HH := hide (head_any w)
  have HT := hide hv
  have HF := hide (fun w' (h : TgS w' v l) (h2 : StS w' vl L) => few_any l L v vl w' h h2 hl hL)
  have HVL := hide hvl
  obtain ⟨A2, c2, rfl, _⟩ := hvl
  cases hfew : (fewT 70 l && fewS 20 L) with
  | false =>
    rw [hfew] at HF
    obtain ⟨A, c, rfl, _⟩ := hv
    clear hfew h
    go_enter Try.func5, Try.ntmps5
    go_wp2_with fail
    refine (HH.out).mono ?_
    rintro _ w1 ⟨rfl, b1⟩
    go_wp2_with fail
    refine (HF.out w1 (HT.out.below b1) (HVL.out.below b1)).mono ?_
    rintro _ w2 ⟨rfl, b2⟩
    have HB := hide (bto b1 b2)
    clear b1 b2
    go_wp2_with fail
    go_ret
    exact ⟨rfl, HB.out⟩
  | true =>
    have hfew2 := hfew
    rw [hfew] at HF
    simp only [Bool.and_eq_true] at hfew2
    obtain ⟨f1, f2⟩ := fewT_facts hfew2.1
    have hl5 : l.length ≤ 100000 := by omega
    by_cases ho : 30 < further.size
    · have ho' : (30 : Int) < further.size := by omega
      obtain ⟨A, c, rfl, _⟩ := hv
      clear f1 f2 hfew hfew2 h
      go_enter Try.func5, Try.ntmps5
      go_wp2_with fail
      refine (HH.out).mono ?_
      rintro _ w1 ⟨rfl, b1⟩
      go_wp2_with fail
      refine (HF.out w1 (HT.out.below b1) (HVL.out.below b1)).mono ?_
      rintro _ w2 ⟨rfl, b2⟩
      have HB := hide (bto b1 b2)
      clear b1 b2
      go_wp2_with fail
      go_ret
      exact ⟨rfl, HB.out⟩
    · have ho' : ¬ (30 : Int) < further.size := by omega
      have HV := hide (fun w' (h : TgS w' v l) => tvalid_any l v w' h hl5 (fun t ht => ⟨Nat.le_trans (f2 t ht).1 (by unfold maxLen; omega), Nat.le_trans (f2 t ht).2 (by unfold maxLen; omega)⟩))
      cases hval : tagsB l with
      | true => exact (h ⟨hfew, ho, hval⟩).elim
      | false =>
        rw [hval] at HV
        obtain ⟨A, c, rfl, _⟩ := hv
        clear f1 f2 hval hfew hfew2 h
        go_enter Try.func5, Try.ntmps5
        go_wp2_with fail
        refine (HH.out).mono ?_
        rintro _ w1 ⟨rfl, b1⟩
        go_wp2_with fail
        refine (HF.out w1 (HT.out.below b1) (HVL.out.below b1)).mono ?_
        rintro _ w2 ⟨rfl, b2⟩
        go_wp2_with fail
        refine (HV.out w2 (HT.out.below (bto b1 b2))).mono ?_
        rintro _ w3 ⟨rfl, b3⟩
        have HB := hide (bto (bto b1 b2) b3)
        clear b1 b2 b3
        go_wp2_with fail
        go_ret
        exact ⟨rfl, HB.out⟩

set_option maxRecDepth 100000 in
set_option maxHeartbeats 16000000 in
theorem best_main (l : List Tg) (v : Value) (L : List ByteArray) (vl : Value) (further : ByteArray) (w : World) (hv : TgS w v l) (hvl : StS w vl L) (hfew : (fewT 70 l && fewS 20 L) = true) (ho : ¬ 30 < further.size) (hval : tagsB l = true) :
    Calls Try.prog 5 #[v, vl, .string further] w fun e w' => e = .returned (.bool true) ∧ Below w.heap.size w w' := by
  have HH := hide (head_any w)
  have HT := hide hv
  have HVL := hide hvl
  have hfew2 := hfew
  simp only [Bool.and_eq_true] at hfew2
  obtain ⟨f1, f2⟩ := fewT_facts hfew2.1
  obtain ⟨f3, f4⟩ := fewS_facts hfew2.2
  have HF := hide (fun w' (h : TgS w' v l) (h2 : StS w' vl L) => few_any l L v vl w' h h2 (by unfold maxLen; omega) (by unfold maxLen; omega))
  rw [hfew] at HF
  have hsz : ∀ t ∈ l, t.k.size ≤ 100000 ∧ t.v.size ≤ 100000 := fun t ht => ⟨by have := (f2 t ht).1; omega, by have := (f2 t ht).2; omega⟩
  have hl5 : l.length ≤ 100000 := by omega
  have HV := hide (fun w' (h : TgS w' v l) => tvalid_any l v w' h hl5 (fun t ht => ⟨Nat.le_trans (hsz t ht).1 (by unfold maxLen; omega), Nat.le_trans (hsz t ht).2 (by unfold maxLen; omega)⟩))
  rw [hval] at HV
  have HL := hide (fun w' (h : TgS w' v l) => languages_any l v w' h hl5 hsz)
  rw [hval] at HL
  simp only [if_true] at HL
  have HBE := hide (fun L' vl' w' (h : TgS w' v l) (h2 : StS w' vl' L') (hL : L'.length ≤ 100000) => best_any l L' v vl' w' h h2 hl5 hL hsz)
  unfold bestR at HBE
  rw [hval] at HBE
  simp only [if_true] at HBE
  have HG := hide (fun key w' (h : TgS w' v l) => get_any l key v w' h hl5)
  have ho' : ¬ (30 : Int) < further.size := by omega
  obtain ⟨A, c, rfl, _⟩ := hv
  have hvl0 := hvl
  obtain ⟨A2, c2, rfl, _⟩ := hvl
  by_cases hn0 : namesL l = []
  · have HB0 := hide (fun w' (h : TgS w' (.slice A l.length c) l) (h2 : StS w' (.slice A2 L.length c2) L) => HBE.out L (.slice A2 L.length c2) w' h h2 (by omega))
    rw [hn0, bestL_nil] at HB0
    rw [hn0] at HL
    have HX := hide (fun w' => xlang_any ⟨#[]⟩ w' (by decide))
    have HG0 := hide (fun w' (h : TgS w' (.slice A l.length c) l) => HG.out ⟨#[]⟩ w' h)
    generalize getT ⟨#[]⟩ l = gt at *
    generalize langB (⟨#[]⟩ : ByteArray).data.toList = lb at *
    generalize (⟨(langX (⟨#[]⟩ : ByteArray).data.toList).toArray⟩ : ByteArray) = lx at *
    clear f1 f2 f3 f4 hsz hval hfew hfew2 hn0 HG HBE hvl0
    go_enter Try.func5, Try.ntmps5
    go_wp2_with fail
    refine (HH.out).mono ?_
    rintro _ w1 ⟨rfl, b1⟩
    go_wp2_with fail
    refine (HF.out w1 (HT.out.below b1) (HVL.out.below b1)).mono ?_
    rintro _ w2 ⟨rfl, b2⟩
    have hb2 := bto b1 b2
    go_wp2_with fail
    refine (HV.out w2 (HT.out.below hb2)).mono ?_
    rintro _ w3 ⟨rfl, b3⟩
    have hb3 := bto hb2 b3
    clear b1 b2 b3 hb2 HH HF HV
    go_wp2_with fail
    refine (HB0.out w3 (HT.out.below hb3) (HVL.out.below hb3)).mono ?_
    rintro _ w4 ⟨rfl, b4⟩
    have hb4 := bto hb3 b4
    clear b4 hb3 HB0
    go_wp2_with fail
    refine (HL.out w4 (HT.out.below hb4)).mono ?_
    rintro _ w5 ⟨v5, rfl, hs5, b5⟩
    obtain ⟨A5, c5, rfl, _, _⟩ := hs5
    have hb5 := bto hb4 b5
    have e2 : (List.map langO ([] : List Tg)).length = 0 := rfl
    rw [e2]
    clear e2 b5 hb4 HL
    go_wp2_with fail
    refine (HG0.out w5 (HT.out.below hb5)).mono ?_
    rintro _ w6 ⟨rfl, b6⟩
    have HB6 := hide (bto hb5 b6)
    clear b6 hb5 HG0
    cases gt with
    | none =>
      simp only [getV]
      go_wp2_with fail
      refine (HX.out _).mono ?_
      rintro _ w7 ⟨rfl, hw7⟩
      obtain rfl : w6 = w7 := hw7
      go_wp2_with fail
      go_ret
      exact ⟨rfl, HB6.out⟩
    | some gv =>
      simp only [getV]
      go_wp2_with fail
      refine (HX.out _).mono ?_
      rintro _ w7 ⟨rfl, hw7⟩
      obtain rfl : w6 = w7 := hw7
      go_wp2_with fail
      go_ret
      exact ⟨rfl, HB6.out⟩
  · obtain ⟨t, ht, hbst, hmin⟩ := best_min L (namesL l) hn0
    obtain ⟨lk1, lk2⟩ := lang_key ht
    have htl := (names_lang ht).1
    have hkn : t.k.toList ≠ [] := by
      rw [ByteArray.toList_eq]
      exact lang_ne (names_lang ht).2
    have hgt := getT_of (tags_incr hval) htl
    have HB0 := hide (fun w' (h : TgS w' (.slice A l.length c) l) (h2 : StS w' (.slice A2 L.length c2) L) => HBE.out L (.slice A2 L.length c2) w' h h2 (by omega))
    rw [hbst] at HB0
    have HX := hide (fun w' => xlang_any t.k w' (hsz t htl).1)
    rw [lk1, lk2] at HX
    have HG0 := hide (fun w' (h : TgS w' (.slice A l.length c) l) => HG.out t.k w' h)
    rw [hgt] at HG0
    simp only [getV] at HG0
    have hown : langO t ∈ (namesL l).map langO := List.mem_map_of_mem ht
    have hol : ((namesL l).map langO).length ≤ 100000 := by rw [List.length_map]; exact Nat.le_trans (names_len l) hl5
    have hol0 : 0 < ((namesL l).map langO).length := List.length_pos_iff.2 (by intro e; rw [e] at hown; cases hown)
    have hmore : langO t ∈ L → (bestL (L ++ [further]) (namesL l)).k = t.k ∧ (bestL (L ++ [further]) (namesL l)).v = t.v := fun hin => best_more hval L further ht hmin hin
    have hbef : langO t ∈ L → ∀ (i : Nat) (hi : i < L.length), (∀ j, j ≤ i → L[j]? ≠ some (langO t)) → L[i] ∉ (namesL l).map langO := fun hin i hi hne => best_before L hmin hin i hi hne
    have HB2 := hide (fun vl' w' (h : TgS w' (.slice A l.length c) l) (h2 : StS w' vl' (L ++ [further])) => HBE.out (L ++ [further]) vl' w' h h2 (by rw [List.length_append]; simp; omega))
    obtain ⟨O, hO⟩ : ∃ O, (namesL l).map langO = O := ⟨_, rfl⟩
    rw [hO] at HL hown hol hol0 hbef
    obtain ⟨x, hx⟩ : ∃ x, langO t = x := ⟨_, rfl⟩
    rw [hx] at HX hown hmore hbef
    obtain ⟨Z, hZ⟩ : ∃ Z, bestL (L ++ [further]) (namesL l) = Z := ⟨_, rfl⟩
    rw [hZ] at HB2 hmore
    have hxo : hasS x O = true := (hasS_iff x O).2 hown
    have HMORE := hide hmore
    have HBEF := hide hbef
    have HHO := hide (fun w' vv (h : StS w' vv O) s => has_any O s vv w' h hol)
    have HHL := hide (fun w' vv (h : StS w' vv L) s => has_any L s vv w' h (by omega))
    have k1 : (t.k.toList == []) = false := beq_eq_false_iff_ne.2 hkn
    have k2 : t.k.toList.isEmpty = false := by cases e : t.k.toList with
      | nil => exact (hkn e).elim
      | cons a b => rfl
    have k3 : ((O.length : Int) == 0) = false := beq_eq_false_iff_ne.2 (by omega)
    have k4 : ¬ (O.length : Int) = 0 := by omega
    have k5 : ¬ O.length = 0 := by omega
    have k6 : ¬ O = [] := by rintro rfl; simp at hol0
    clear hmore hbef hbst hmin lk1 lk2 htl hgt hO hx hZ ht hn0 HG HBE hown hfew hfew2 f1 f2 f4 hsz hval
    go_enter Try.func5, Try.ntmps5
    go_wp2_with fail
    refine (HH.out).mono ?_
    rintro _ w1 ⟨rfl, b1⟩
    go_wp2_with fail
    refine (HF.out w1 (HT.out.below b1) (HVL.out.below b1)).mono ?_
    rintro _ w2 ⟨rfl, b2⟩
    have hb2 := bto b1 b2
    go_wp2_with fail
    refine (HV.out w2 (HT.out.below hb2)).mono ?_
    rintro _ w3 ⟨rfl, b3⟩
    have hb3 := bto hb2 b3
    clear b1 b2 b3 hb2 HH HF HV
    go_wp2_with fail
    refine (HB0.out w3 (HT.out.below hb3) (HVL.out.below hb3)).mono ?_
    rintro _ w4 ⟨rfl, b4⟩
    have hb4 := bto hb3 b4
    clear b4 hb3 HB0
    go_wp2_with fail
    refine (HL.out w4 (HT.out.below hb4)).mono ?_
    rintro _ w5 ⟨v5, rfl, hs5, b5⟩
    have HS5 := hide hs5
    obtain ⟨A5, c5, rfl, _, _⟩ := hs5
    have hb5 := bto hb4 b5
    clear b5 hb4 HL
    go_wp2_with fail
    refine (HG0.out w5 (HT.out.below hb5)).mono ?_
    rintro _ w6 ⟨rfl, b6⟩
    have hb6 := bto hb5 b6
    have HS6 := hide (HS5.out.below b6)
    clear b6 hb5 HG0 HS5
    go_wp2_with fail
    refine (HX.out _).mono ?_
    rintro _ w7 ⟨rfl, hw7⟩
    obtain rfl : w6 = w7 := hw7
    clear HX
    go_wp2_with fail
    have HO6 := hide (HHO.out w6 _ HS6.out x)
    rw [hxo] at HO6
    refine (HO6.out).mono ?_
    rintro _ w8 ⟨rfl, hw8⟩
    obtain rfl : w6 = w8 := hw8
    clear HO6 hxo
    obtain ⟨i0, hi, hz0, hz1, hz2⟩ := info_parts info_str
    have HI := hide hi; have HZ0 := hide hz0; have HZ1 := hide hz1; have HZ2 := hide hz2
    obtain ⟨wq, hwq⟩ : ∃ wq, w6.alloc (.cells #[] 9) = wq := ⟨_, rfl⟩
    have hbq : Below w6.heap.size w6 wq := by rw [← hwq]; exact (Below.refl _ _).alloc (Nat.le_refl _) _
    have ho0 : wq.ownsRow w6.heap.size 9 1 (.slice (some ⟨w6.heap.size, 0, none⟩) 0 0) 0 [] := by rw [← hwq]; exact ⟨rfl, .inr ⟨w6.heap.size, 0, #[], rfl, Nat.le_refl _, heap_alloc_new w6 _, Nat.le_refl _, Nat.zero_le _, rfl, rfl⟩⟩
    have HO0 := hide ho0
    have HBQ := hide hbq
    have hsrc := (HVL.out.below (bto hb6 hbq)).src
    obtain ⟨A9, c9, e9, hs1, hs2⟩ := hsrc
    obtain ⟨rfl, rfl⟩ : A2 = A9 ∧ c2 = c9 := by cases e9; exact ⟨rfl, rfl⟩
    have HS1 := hide hs1
    have HS2 := hide hs2
    have HB6 := hide hb6
    clear hi hz0 hz1 hz2 ho0 hbq e9 hs1 hs2 hb6
    have nL : 0 + L.length ≤ maxLen := by unfold maxLen; omega
    have nL2 : (0 + L.length) * 16 ≤ 140737488355328 := by omega
    go_wp2_with (at_builtin; go_must (refine wpList_append_src _ rfl (.tmp 90) (.tmp 91) 31 rfl w6.heap.size 9 i0 (.string ⟨#[]⟩) 1 16 Try.underlying31 HI.out HZ0.out HZ1.out HZ2.out rfl (by decide) (.slice (some ⟨w6.heap.size, 0, none⟩) 0 0) 0 [] rfl HO0.out A2 L.length c2 (strsV L) rfl (by simp [strsV]) HS1.out HS2.out (strsV_one L) nL nL2 HBQ.out.size ?_))
    intro v' w9 hown' hgrow
    obtain ⟨A9, c9, rfl⟩ := own_slice hown'
    have b9 : Below w6.heap.size w6 w9 := HBQ.out.grown hgrow HBQ.out.size (fun k hk => by cases hk; exact Nat.le_refl _)
    have HO9 := hide (hown'.alloc (.cells #[.string further] 9))
    have HB9 := hide b9
    have nL3 : L.length + 1 ≤ maxLen := by unfold maxLen; omega
    have nL4 : (L.length + 1) * 16 ≤ 140737488355328 := by omega
    have nL5 : w6.heap.size ≤ (w9.alloc (.cells #[.string further] 9)).heap.size := by have := b9.size; simp; omega
    clear hown' hgrow b9 hwq HO0 HS1 HS2 nL nL2
    go_wp2_with (at_builtin; go_must (refine wpList_append_own _ rfl (.tmp 92) (.tmp 94) 31 rfl w6.heap.size 9 i0 (.string ⟨#[]⟩) 1 16 Try.underlying31 HI.out HZ0.out HZ1.out HZ2.out rfl (by decide) (.slice A9 L.length c9) L.length (strsV L) rfl HO9.out ⟨w9.heap.size, 0, none⟩ 1 1 [.string further] rfl rfl (newB_cells w9 _ _) (one_str _) nL3 nL4 nL5 ?_))
    intro v'' w10 hown'' hgrow'' _
    obtain ⟨g10, c10, rfl⟩ := ownsRow_succ hown''
    have b10 : Below w6.heap.size w6 w10 := (HB9.out.alloc HB9.out.size _).grown hgrow'' (by have := HB9.out.size; simp; omega) (fun k hk => (HO9.out.lt k hk).1)
    have st10 : StS w10 (.slice (some ⟨g10, 0, none⟩) (L.length + 1) c10) (L ++ [further]) := by
      have h9 : StS w10 (.slice (some ⟨g10, 0, none⟩) (L ++ [further]).length c10) (L ++ [further]) := st_of_own (B := w6.heap.size) (by
        rw [List.length_append]
        have e : strsV (L ++ [further]) = strsV L ++ [.string further] := by simp [strsV]
        rw [e]
        exact hown'')
      rw [List.length_append] at h9
      exact h9
    have HST := hide st10
    have HB10 := hide (bto HB6.out b10)
    have HS10 := hide (HS6.out.below b10)
    clear hown'' hgrow'' b10 st10 HO9 HB9 nL3 nL4 nL5 HS6 HBQ
    have HHLx := hide (fun w' (hb' : Below w.heap.size w w') => HHL.out w' _ (HVL.out.below hb') x)
    cases hh : hasS x L with
    | false =>
      rw [hh] at HHLx
      go_wp2_with fail
      refine (HB2.out _ w10 (HT.out.below HB10.out) HST.out).mono ?_
      rintro _ w11 ⟨rfl, b11⟩
      have HB11 := hide (bto HB10.out b11)
      clear b11
      go_wp2_with fail
      refine (HHLx.out w11 HB11.out).mono ?_
      rintro _ w12 ⟨rfl, hw12⟩
      obtain rfl : w11 = w12 := hw12
      go_wp2_with fail
      go_ret
      exact ⟨rfl, HB11.out⟩
    | true =>
      rw [hh] at HHLx
      have hin := (hasS_iff x L).1 hh
      obtain ⟨g1, g2⟩ := HMORE.out hin
      rw [g1, g2] at HB2
      have HBEF2 := hide (HBEF.out hin)
      have r1 : (t.k.toList == t.k.toList) = true := beq_self_eq_true _
      have r2 : (t.v.toList == t.v.toList) = true := beq_self_eq_true _
      clear g1 g2 HMORE HBEF hin hh
      go_wp2_with fail
      refine (HB2.out _ w10 (HT.out.below HB10.out) HST.out).mono ?_
      rintro _ w11 ⟨rfl, b11⟩
      have HB11 := hide (bto HB10.out b11)
      have HS11 := hide (HS10.out.below b11)
      clear b11 HS10
      go_wp2_with fail
      refine (HHLx.out w11 HB11.out).mono ?_
      rintro _ w12 ⟨rfl, hw12⟩
      obtain rfl : w11 = w12 := hw12
      clear HHLx HB2
      go_wp2_with fail
      have hL11 := HVL.out.below HB11.out
      obtain ⟨AL, cL, eL, _, hL⟩ := hL11
      obtain ⟨rfl, rfl⟩ : A2 = AL ∧ c2 = cL := by cases eL; exact ⟨rfl, rfl⟩
      have HLL := hide hL
      clear hL eL
      go_loop [17] (fun i => ∃ k : Nat, k ≤ L.length ∧ i = .int .i64 k ∧ Hid (∀ j, j < k → L[j]? ≠ some x)) (fun i => L.length - (intOf i).toNat)
      case atStart => exact ⟨0, Nat.zero_le _, rfl, hide (fun j hj => by omega)⟩
      case round =>
        obtain ⟨k, hk, rfl, hnot⟩ := hrel
        by_cases hlt : k < L.length
        · obtain ⟨g, o, rfl, hg, hp⟩ := HLL.out.resolve_left (by rintro rfl; simp at hlt)
          have c1 := hp k _ (List.getElem?_eq_getElem hlt)
          have kk0 : (0 : Int) ≤ k := by omega
          have kk1 : (k : Int) < L.length := by omega
          have HLT := hide hlt
          have HM := hide (show L.length - (k + 1) < L.length - k from by omega)
          by_cases hy : L[k] = x
          · have hyl : L[k].toList = x.toList := by rw [hy]
            generalize L[k] = y at *
            have m1 : (y.toList == x.toList) = true := by rw [beq_iff_eq]; exact hyl
            clear hy hnot hp hlt
            go_wp2_with fail
            go_ret
            exact ⟨rfl, HB11.out⟩
          · have hno := HBEF2.out k hlt (fun j hj => by
              rcases Nat.lt_or_ge j k with h | h
              · exact hnot.out j h
              · obtain rfl : j = k := by omega
                rw [List.getElem?_eq_getElem hlt]
                intro e
                exact hy (Option.some.inj e))
            have HNOT := hide (show ∀ j, j < k + 1 → L[j]? ≠ some x from fun j hj => by
              rcases Nat.lt_or_ge j k with h | h
              · exact hnot.out j h
              · obtain rfl : j = k := by omega
                rw [List.getElem?_eq_getElem hlt]
                intro e
                exact hy (Option.some.inj e))
            have hhf : hasS L[k] O = false := by
              cases e : hasS L[k] O with
              | false => rfl
              | true => exact (hno ((hasS_iff _ O).1 e)).elim
            have HHK := hide (HHO.out w11 _ HS11.out L[k])
            rw [hhf] at HHK
            have hyl : ¬ L[k].toList = x.toList := fun e => hy (bytes_ext e)
            generalize L[k] = y at *
            have m1 : (y.toList == x.toList) = false := beq_eq_false_iff_ne.2 hyl
            clear hy hnot hp hlt hno hhf
            go_wp2_with fail
            refine (HHK.out).mono ?_
            rintro _ w13 ⟨rfl, hw13⟩
            obtain rfl : w11 = w13 := hw13
            go_wp2_with fail
            refine ⟨⟨k + 1, HLT.out, by go_num, HNOT⟩, ?_⟩
            have := HM.out
            simp [intOf]; omega
        · go_wp2_with fail
          go_ret
          exact ⟨rfl, HB11.out⟩
theorem best_law (l : List Tg) (v : Value) (L : List ByteArray) (vl : Value) (further : ByteArray) (w : World) (hv : TgS w v l) (hl : l.length ≤ maxLen) (hvl : StS w vl L) (hL : L.length ≤ maxLen) (_ : ∀ s ∈ L, s.size ≤ maxLen) (_ : further.size ≤ maxLen) :
    Calls Try.prog 5 #[v, vl, .string further] w fun e w' => e = .returned (.bool true) ∧ Below w.heap.size w w' := by
  by_cases h : (fewT 70 l && fewS 20 L) = true ∧ ¬ 30 < further.size ∧ tagsB l = true
  · exact best_main l v L vl further w hv hvl h.1 h.2.1 h.2.2
  · exact best_skip l v L vl further w hv hl hvl hL h
end Go.Proofs.Ytjniicmhndflpaa
