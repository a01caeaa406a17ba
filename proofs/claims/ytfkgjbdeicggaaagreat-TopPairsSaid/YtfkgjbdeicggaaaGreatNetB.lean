/-
  Tags and lists of strings in memory; tag.Valid, walked.
-/
import Derived.Test.YtfkgjbdeicggaaaGreatLexI
import Derived.Test.YtfkgjbdeicggaaaGreatPlainAll
import Derived.BigQuiet
import Derived.Carry
import Derived.Laws.EntriesVeiled
import Derived.Deep.QuietTactic
namespace Go.Proofs.YtfkgjbdeicggaaaGreat
open Go.RowKit Go.Proofs.PlLex Go.Proofs.PlNet

theorem bto {a b c : World} (h : Below a.heap.size a b) (k : Below b.heap.size b c) : Below a.heap.size a c := h.trans (k.mono h.size)
/-- Tags in memory, from a cell on. -/
def TagsO (W : World) (g o : Nat) (l : List Tg) : Prop := ∀ (i : Nat) t, l[i]? = some t → W.cell? ⟨g, o + i * 2, none⟩ = some (.string t.k) ∧ W.cell? ⟨g, o + i * 2 + 1, none⟩ = some (.string t.v)
theorem TagsO.below {W W' : World} {g o n₀ : Nat} {l : List Tg} (h : TagsO W g o l) (hg : g < n₀) (hb : Below n₀ W W') : TagsO W' g o l :=
  fun i p hp => ⟨(hb.cell (p := ⟨g, _, none⟩) hg).trans (h i p hp).1, (hb.cell (p := ⟨g, _, none⟩) hg).trans (h i p hp).2⟩
/-- A slice value that reads as tags. -/
def TgS (W : World) (v : Value) (l : List Tg) : Prop := ∃ A c, v = .slice A l.length c ∧ (l = [] ∨ ∃ g o, A = some ⟨g, o, none⟩ ∧ g < W.heap.size ∧ TagsO W g o l)
theorem TgS.below {W W' : World} {v : Value} {l : List Tg} (h : TgS W v l) (hb : Below W.heap.size W W') : TgS W' v l := by
  obtain ⟨A, c, hv, h⟩ := h
  refine ⟨A, c, hv, ?_⟩
  rcases h with h | ⟨g, o, hA, hg, hp⟩
  · exact .inl h
  · exact .inr ⟨g, o, hA, Nat.lt_of_lt_of_le hg hb.size, hp.below hg hb⟩
/-- Strings in memory. -/
def StrsO (W : World) (g o : Nat) (l : List ByteArray) : Prop := ∀ (i : Nat) s, l[i]? = some s → W.cell? ⟨g, o + i, none⟩ = some (.string s)
theorem StrsO.below {W W' : World} {g o n₀ : Nat} {l : List ByteArray} (h : StrsO W g o l) (hg : g < n₀) (hb : Below n₀ W W') : StrsO W' g o l :=
  fun i p hp => (hb.cell (p := ⟨g, _, none⟩) hg).trans (h i p hp)
def StS (W : World) (v : Value) (l : List ByteArray) : Prop := ∃ A c, v = .slice A l.length c ∧ l.length ≤ c ∧ (l = [] ∨ ∃ g o, A = some ⟨g, o, none⟩ ∧ g < W.heap.size ∧ StrsO W g o l)
theorem StS.below {W W' : World} {v : Value} {l : List ByteArray} (h : StS W v l) (hb : Below W.heap.size W W') : StS W' v l := by
  obtain ⟨A, c, hv, hc, h⟩ := h
  refine ⟨A, c, hv, hc, ?_⟩
  rcases h with h | ⟨g, o, hA, hg, hp⟩
  · exact .inl h
  · exact .inr ⟨g, o, hA, Nat.lt_of_lt_of_le hg hb.size, hp.below hg hb⟩
theorem lt_of_block {w : World} {g : Nat} {o : Obj} (h : w.heap[g]? = some o) : g < w.heap.size := (Array.getElem?_eq_some_iff.1 h).1
theorem blkB {w w' : World} {g : Nat} {o : Obj} (hb : Below w.heap.size w w') (h : w.heap[g]? = some o) : w'.heap[g]? = some o := (hb.block g (lt_of_block h)).trans h
theorem frozen_of_row (w : World) (g i : Nat) (cs : Array Value) (t : TypeId) (h : w.heap[g]? = some (.cells cs t (0, 0))) : w.frozen? ⟨g, i, none⟩ = false := by simp [World.frozen?, h]
theorem blk1 {w : World} {g : Nat} {a : Value} {t : TypeId} (h : w.heap[g]? = some (.cells #[a] t (0, 0))) : w.cell? ⟨g, 0, none⟩ = some a ∧ w.frozen? ⟨g, 0, none⟩ = false :=
  ⟨cell_of_row w g 0 _ t _ h, frozen_of_row w g 0 _ t h⟩
theorem blk2 {w : World} {g : Nat} {a b : Value} {t : TypeId} (h : w.heap[g]? = some (.cells #[a, b] t (0, 0))) : (w.cell? ⟨g, 0, none⟩ = some a ∧ w.cell? ⟨g, 1, none⟩ = some b) ∧ (w.frozen? ⟨g, 0, none⟩ = false ∧ w.frozen? ⟨g, 1, none⟩ = false) :=
  ⟨⟨cell_of_row w g 0 _ t _ h, cell_of_row w g 1 _ t _ h⟩, frozen_of_row w g 0 _ t h, frozen_of_row w g 1 _ t h⟩
theorem drop_tg (l : List Tg) (k : Nat) (h : k < l.length) : l.drop k = l[k] :: l.drop (k + 1) := List.drop_eq_getElem_cons h

set_option maxRecDepth 100000 in
set_option maxHeartbeats 8000000 in
theorem tvalid_any (l : List Tg) (v : Value) (w : World) (hv : TgS w v l) (hl : l.length ≤ 100000) (hs : ∀ t ∈ l, t.k.size ≤ maxLen ∧ t.v.size ≤ maxLen) :
    Calls Tryz.prog 80 #[v] w fun e w' => e = .returned (.bool (tagsB l)) ∧ Below w.heap.size w w' := by
  obtain ⟨R, hR⟩ : ∃ R, tagsB l = R := ⟨_, rfl⟩
  rw [hR]
  have HR := hide hR
  clear hR
  obtain ⟨A, c, rfl, hA⟩ := hv
  have HA := hide hA
  have HS := hide hs
  clear hA hs
  go_enter Tryz.func80, Tryz.ntmps80
  go_wp2_with fail
  go_loopw [3, 8] (fun s i wr => ∃ (k : Nat) (last : ByteArray), k ≤ l.length ∧ i = .int .i64 k ∧ s = .string last ∧ Hid (Below w.heap.size w wr) ∧ Hid ((tagL last (l.drop k) && decide (l.length ≤ 60)) = R)) (fun _ i _ => l.length - (intOf i).toNat)
  case atStart => exact ⟨0, ⟨#[]⟩, Nat.zero_le _, rfl, rfl, Below.refl _ _, HR⟩
  case round =>
    obtain ⟨k, last, hk, rfl, rfl, hb, hr⟩ := hrel
    by_cases hlt : k < l.length
    · obtain ⟨g, o, rfl, hg, hp⟩ := HA.out.resolve_left (by rintro rfl; simp at hlt)
      obtain ⟨c1, c2⟩ := (hp.below hg hb.out) k _ (List.getElem?_eq_getElem hlt)
      have hr2 := hr.out
      rw [drop_tg l k hlt, tagL] at hr2
      have hmem : l[k] ∈ l := List.getElem_mem hlt
      obtain ⟨hs1, hs2⟩ := HS.out _ hmem
      have HN := hide (fun w => pname_any l[k].k w hs1)
      generalize l[k] = t at *
      obtain ⟨tk, tv⟩ := t
      simp only at c1 c2 hr2 hs1 hs2 HN
      have k0 : (0 : Int) ≤ k := by omega
      have k1 : (k : Int) < l.length := by omega
      have HL := hide hlt
      have HM := hide (show l.length - (k + 1) < l.length - k from by omega)
      have HR2 := hide hr2
      clear hr hr2 hmem hp hlt
      go_wp2_with fail
      obtain ⟨wo, hwo⟩ : ∃ wo, wr.alloc (.cells #[.string tk, .string tv] 162) = wo := ⟨_, rfl⟩
      have hblk : wo.heap[wr.heap.size]? = some (.cells #[.string tk, .string tv] 162 (0, 0)) := by rw [← hwo]; exact heap_alloc_new _ _
      have hbo : Below w.heap.size w wo := by rw [← hwo]; exact hb.out.alloc hb.out.size _
      rw [hwo]
      refine (HN.out _).mono ?_
      rintro _ w2 ⟨rfl, b2⟩
      have HB2 := hide (bto hbo b2)
      obtain ⟨⟨d1, d2⟩, _⟩ := blk2 (blkB b2 hblk)
      clear hwo hblk hbo b2 c1 c2
      cases hn : name tk.data.toList with
      | false =>
        have HZ := hide (show R = false from by rw [← HR2.out, hn]; simp)
        clear hn
        go_wp2_with fail
        go_ret
        exact ⟨ret_bool HZ.out.symm, HB2.out⟩
      | true =>
        cases hb1 : Go.Op.bytesLess tk.toList last.toList with
        | true =>
          have HZ := hide (show R = false from by rw [← HR2.out, hb1]; simp)
          clear hn
          go_wp2_with fail
          go_ret
          exact ⟨ret_bool HZ.out.symm, HB2.out⟩
        | false =>
          cases hb2 : (tk.toList == last.toList) with
          | true =>
            have HZ := hide (show R = false from by rw [← HR2.out, hb2]; simp)
            have hb3 : tk.toList = last.toList := by simpa using hb2
            clear hn
            go_wp2_with fail
            go_ret
            exact ⟨ret_bool HZ.out.symm, HB2.out⟩
          | false =>
            have hb3 : ¬ tk.toList = last.toList := by simpa using hb2
            cases hv : tv.toList.isEmpty with
            | true =>
              have HZ := hide (show R = false from by rw [← HR2.out, hv]; simp)
              have hv2 : tv.toList = [] := by simpa using hv
              clear hn
              go_wp2_with fail
              go_ret
              exact ⟨ret_bool HZ.out.symm, HB2.out⟩
            | false =>
              have hv2 : ¬ tv.toList = [] := by simpa using hv
              by_cases hz : tv.size ≤ 200
              · have hz2 : ¬ (200 : Int) < tv.size := by omega
                have HZ := hide (show (tagL tk (l.drop (k + 1)) && decide (l.length ≤ 60)) = R from by
                  rw [← HR2.out, hn, hb1, hb2, hv, decide_eq_true hz]; rfl)
                clear hn
                go_wp2_with fail
                refine ⟨⟨k + 1, tk, HL.out, by go_num, rfl, HB2, HZ⟩, ?_⟩
                have := HM.out
                simp [intOf]; omega
              · have hz2 : (200 : Int) < tv.size := by omega
                have HZ := hide (show R = false from by rw [← HR2.out, decide_eq_false hz]; simp)
                clear hn
                go_wp2_with fail
                go_ret
                exact ⟨ret_bool HZ.out.symm, HB2.out⟩
    · have hz : decide (l.length ≤ 60) = R := by
        rw [← hr.out, List.drop_eq_nil_of_le (by omega)]
        rfl
      have HZ := hide hz
      have HB := hide hb.out
      clear hz hr hb
      by_cases h6 : l.length ≤ 60
      · have h7 : (l.length : Int) ≤ 60 := by omega
        go_wp2_with fail
        go_ret
        exact ⟨ret_bool (by rw [← HZ.out, decide_eq_true h6]), HB.out⟩
      · have h7 : ¬ (l.length : Int) ≤ 60 := by omega
        go_wp2_with fail
        go_ret
        exact ⟨ret_bool (by rw [← HZ.out, decide_eq_false h6]), HB.out⟩
end Go.Proofs.YtfkgjbdeicggaaaGreat

/-! object.word, least, on, and the closure that looks at a reference, walked. -/
namespace Go.Proofs.YtfkgjbdeicggaaaGreat
open Go.RowKit Go.Proofs.PlLex Go.Proofs.PlNet Go.Proofs.PlMap

attribute [local go_sem] run_makeMap
theorem wp_region_quietW {P : Program} {id : Nat} {Q : Exit → Act → World → Prop} {a : Act} {w : World} {l : List Oper} {J : Type} (W : J → World) (u : J) (hu : w.drew = W u) (hm : P.follows .mixedOrders = true) (hB : Region.lexB .any l.toArray = true)
    (h : wpQuiet P l.toArray (fun w' => ∃ u, w' = W u) (fun a' => ∀ w', (∃ u, w' = W u) → Q .normal a' w') l a) : (Code.region id l.toArray true).wp P Q a w :=
  wp_region_quiet (C := fun w' => ∃ u, w' = W u) hm hB ⟨u, hu⟩ (by simpa using h)

/-- The word of a kind. -/
def wordS (k : Int) : ByteArray := if k = 1 then ⟨#[110, 111, 100, 101]⟩ else if k = 2 then ⟨#[119, 97, 121]⟩ else if k = 3 then ⟨#[97, 114, 101, 97]⟩ else if k = 4 then ⟨#[114, 111, 117, 116, 101]⟩ else if k = 5 then ⟨#[116, 117, 114, 110]⟩ else ⟨#[]⟩
theorem kinds (k : Int) : k < 0 ∨ k = 0 ∨ k = 1 ∨ k = 2 ∨ k = 3 ∨ k = 4 ∨ k = 5 ∨ 6 ≤ k := by omega
theorem wordS_out (k : Int) (h : k < 1 ∨ 5 < k) : wordS k = ⟨#[]⟩ := by
  unfold wordS
  repeat (rw [if_neg (by omega)])
set_option maxRecDepth 100000 in
set_option maxHeartbeats 4000000 in
theorem word_any2 (k : Int) (w : World) : Calls Tryz.prog 78 #[.int .i64 k] w fun e w' => e = .returned (.string (wordS k)) ∧ Below w.heap.size w w' := by
  have HB : ∀ o : Obj, Below w.heap.size w (w.alloc o) := fun o => (Below.refl _ _).alloc (Nat.le_refl _) o
  rcases kinds k with h | rfl | rfl | rfl | rfl | rfl | rfl | h
  case inl =>
    have HW := hide (wordS_out k (.inl (by omega)))
    go_enter Tryz.func78, Tryz.ntmps78
    go_wp2_with fail
    go_ret
    exact ⟨ret_str HW.out.symm, HB _⟩
  case inr.inr.inr.inr.inr.inr.inr =>
    have HW := hide (wordS_out k (.inr (by omega)))
    have h0 : ¬ k < 0 := by omega
    go_enter Tryz.func78, Tryz.ntmps78
    go_wp2_with fail
    go_ret
    exact ⟨ret_str HW.out.symm, HB _⟩
  all_goals
    go_enter Tryz.func78, Tryz.ntmps78
    go_wp2_with fail
    refine bodyPost_ret (v := .string (wordS _)) (by simp [results, Tryz.f78, go_sem]; decide) rfl ⟨rfl, HB _⟩
set_option maxRecDepth 100000 in
set_option maxHeartbeats 4000000 in
theorem least_any (k : Int) (h1 : 1 ≤ k) (h5 : k ≤ 5) (w : World) : Calls Tryz.prog 81 #[.int .i64 k] w fun e w' => e = .returned (.int .i64 (leastK k)) ∧ w = w' := by
  have x1 : ∀ w : World, (Instr.index 222 (.agg #[.int .i64 0, .int .i64 0, .int .i64 2, .int .i64 3, .int .i64 1, .int .i64 3]) (.int .i64 1)).run Tryz.prog w = .ok (.int .i64 0) w := fun _ => by kernel_rfl
  have x2 : ∀ w : World, (Instr.index 222 (.agg #[.int .i64 0, .int .i64 0, .int .i64 2, .int .i64 3, .int .i64 1, .int .i64 3]) (.int .i64 2)).run Tryz.prog w = .ok (.int .i64 2) w := fun _ => by kernel_rfl
  have x3 : ∀ w : World, (Instr.index 222 (.agg #[.int .i64 0, .int .i64 0, .int .i64 2, .int .i64 3, .int .i64 1, .int .i64 3]) (.int .i64 3)).run Tryz.prog w = .ok (.int .i64 3) w := fun _ => by kernel_rfl
  have x4 : ∀ w : World, (Instr.index 222 (.agg #[.int .i64 0, .int .i64 0, .int .i64 2, .int .i64 3, .int .i64 1, .int .i64 3]) (.int .i64 4)).run Tryz.prog w = .ok (.int .i64 1) w := fun _ => by kernel_rfl
  have x5 : ∀ w : World, (Instr.index 222 (.agg #[.int .i64 0, .int .i64 0, .int .i64 2, .int .i64 3, .int .i64 1, .int .i64 3]) (.int .i64 5)).run Tryz.prog w = .ok (.int .i64 3) w := fun _ => by kernel_rfl
  have x : (Instr.index 222 (.agg #[.int .i64 0, .int .i64 0, .int .i64 2, .int .i64 3, .int .i64 1, .int .i64 3]) (.int .i64 k)).run Tryz.prog w = .ok (.int .i64 (leastK k)) w := by
    have : k = 1 ∨ k = 2 ∨ k = 3 ∨ k = 4 ∨ k = 5 := by omega
    rcases this with rfl | rfl | rfl | rfl | rfl
    · exact x1 w
    · exact x2 w
    · exact x3 w
    · exact x4 w
    · exact x5 w
  clear x1 x2 x3 x4 x5
  go_enter Tryz.func81, Tryz.ntmps81
  go_wp2_with fail
  go_ret
  exact ⟨rfl, rfl⟩
set_option maxRecDepth 100000 in
set_option maxHeartbeats 4000000 in
theorem on_any (x y : Int) (w : World) : Calls Tryz.prog 84 #[.agg #[.int .i64 x, .int .i64 y]] w fun e w' => e = .returned (.bool (gridB x y)) ∧ Below w.heap.size w w' := by
  go_enter Tryz.func84, Tryz.ntmps84
  go_wp2_with fail
  all_goals go_ret
  all_goals refine ⟨ret_bool ?_, (Below.refl _ _).alloc (Nat.le_refl _) _⟩
  all_goals (unfold gridB; rw [Bool.eq_iff_iff]; simp; omega)
end Go.Proofs.YtfkgjbdeicggaaaGreat
