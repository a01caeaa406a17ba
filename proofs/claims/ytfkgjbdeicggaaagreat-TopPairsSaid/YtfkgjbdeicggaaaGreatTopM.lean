/-
  How the borders meet, walked: note, meets.
-/
import Derived.Test.YtfkgjbdeicggaaaGreatTopL
namespace Go.Proofs.YtfkgjbdeicggaaaGreat
open Go.RowKit Go.Proofs.PlLex Go.Proofs.PlNet Go.Proofs.PlMap Go.Proofs.PlGeom Go.Proofs.PlTop
attribute [local go_sem] Oper.semAt_some run_makeMap run_min_str run_max_str

theorem norm_size {a b : BA} (ha : a.size ≤ 100000) (hb : b.size ≤ 100000) : okPr (normP (a, b)) := by
  unfold okPr normP minS maxS
  refine ⟨?_, ?_⟩ <;> (simp only; split <;> omega)
set_option maxRecDepth 100000 in
set_option maxHeartbeats 4000000 in
theorem note_any (a b : BA) (ha : a.size ≤ 100000) (hb : b.size ≤ 100000) (bx bb : Nat) (bl : List (Pr × Value)) (w : World) (hbx : w.heap[bx]? = some (.cells #[.map (some bb)] 86 (0, 0))) (hm : MapPr w bb bl) (hl : bl.length < 1000000000) :
    Calls Tryz.prog 31 #[.string a, .string b, .pointer (some ⟨bx, 0, none⟩)] w fun e w' => e = .returned (.tuple #[]) ∧ MapPr w' bb (putL bl (normP (a, b)) (.bool true)) ∧ w.grownBy w' (some bb) := by
  have x0 := (blk1 hbx).1
  obtain ⟨w2, hst, hml, htu⟩ := hm.store Tryz.underlying86 (by unfold maxLen; omega) (x := normP (a, b)) (norm_size ha hb) (.bool true)
  change (Instr.mapUpdate 86 (.map (some bb)) (.agg #[.string (minS a b), .string (maxS a b)]) (.bool true)).run _ _ = _ at hst
  have HML := hide hml
  have HTU := hide htu
  clear hm hml htu hbx
  go_enter Tryz.func31, Tryz.ntmps31
  go_wp2_with fail
  go_end0
  exact ⟨rfl, HML.out, HTU.out.grown⟩
theorem allP_len (S : List Sg) : (allP S).length ≤ S.length * S.length := by
  unfold allP
  have key : ∀ (L : List Nat) (f : Nat → List Mt) (n : Nat), (∀ i, (f i).length ≤ n) → (L.flatMap f).length ≤ L.length * n := fun L f n h => by
    induction L with
    | nil => simp
    | cons i L ih =>
      rw [List.flatMap_cons, List.length_append, List.length_cons, Nat.succ_mul]
      have := h i
      omega
  have := key (List.range S.length) (fun i => (List.range S.length).filterMap fun k => match S[i]?, S[k]? with
    | some s, some t => if i < k ∧ meets s t ≠ 0 then some ⟨i, k, meets s t⟩ else none
    | _, _ => none) S.length (fun i => by
      refine Nat.le_trans (List.length_filterMap_le _ _) ?_
      rw [List.length_range]
      exact Nat.le_refl _)
  rw [List.length_range] at this
  exact this
theorem allP_kind {S : List Sg} {m m' : Mt} (h : m ∈ allP S) (h' : m' ∈ allP S) (ha : m.a = m'.a) (hb : m.b = m'.b) : m.kind = m'.kind := by
  obtain ⟨s, t, h1, h2, _, _, h3⟩ := allP_mem.1 h
  obtain ⟨s', t', h1', h2', _, _, h3'⟩ := allP_mem.1 h'
  rw [ha, h1'] at h1
  rw [hb, h2'] at h2
  cases h1
  cases h2
  rw [h3, h3']
theorem allP_lt {S : List Sg} {m : Mt} (h : m ∈ allP S) : m.a < S.length ∧ m.b < S.length := by
  obtain ⟨s, t, h1, h2, _⟩ := allP_mem.1 h
  exact ⟨(List.getElem?_eq_some_iff.1 h1).1, (List.getElem?_eq_some_iff.1 h2).1⟩
/-- What a map holds of the first meetings. -/
def FouR (L : List Mt) (fl : List (Pt × Value)) : Prop := ∀ q v, getL fl q = some v ↔ ∃ m ∈ L, q = ⟨(m.a : Nat), (m.b : Nat)⟩ ∧ v = .int .i64 m.kind
theorem FouR.put {S : List Sg} {j : Nat} {m : Mt} {fl : List (Pt × Value)} (h : FouR ((allP S).take j) fl) (hm : (allP S)[j]? = some m) : FouR ((allP S).take (j + 1)) (putL fl ⟨(m.a : Nat), (m.b : Nat)⟩ (.int .i64 m.kind)) := by
  have hmm := List.mem_of_getElem? hm
  have e : (allP S).take (j + 1) = (allP S).take j ++ [m] := by rw [List.take_add_one, hm]; rfl
  intro q v
  rw [getL_put, e]
  by_cases hq : q = ⟨(m.a : Nat), (m.b : Nat)⟩
  · rw [if_pos hq]
    constructor
    · intro hv
      exact ⟨m, by simp, hq, (Option.some.inj hv).symm⟩
    · rintro ⟨m', hm', hq', rfl⟩
      have hin : m' ∈ allP S := by
        rcases List.mem_append.1 hm' with h1 | h1
        · exact List.mem_of_mem_take h1
        · simp at h1; rw [h1]; exact hmm
      rw [hq] at hq'
      injection hq' with e1 e2
      rw [allP_kind hin hmm (by omega) (by omega)]
  · rw [if_neg hq, h q v]
    constructor
    · rintro ⟨m', hm', h2, h3⟩
      exact ⟨m', List.mem_append_left _ hm', h2, h3⟩
    · rintro ⟨m', hm', h2, h3⟩
      rcases List.mem_append.1 hm' with h1 | h1
      · exact ⟨m', h1, h2, h3⟩
      · simp at h1
        rw [h1] at h2
        exact absurd h2 hq
/-- A slice value that reads as the numbers from 0 on. -/
def CntS (W : World) (v : Value) (n : Nat) : Prop := ∃ A c, v = .slice A n c ∧ (n = 0 ∨ ∃ g o, A = some ⟨g, o, none⟩ ∧ g < W.heap.size ∧ ∀ k, k < n → W.cell? ⟨g, o + k, none⟩ = some (.int .i64 (k : Nat)))
theorem CntS.below {W W' : World} {v : Value} {n : Nat} (h : CntS W v n) (hb : Below W.heap.size W W') : CntS W' v n := by
  obtain ⟨A, c, hv, h⟩ := h
  refine ⟨A, c, hv, ?_⟩
  rcases h with h | ⟨g, o, hA, hg, hp⟩
  · exact .inl h
  · exact .inr ⟨g, o, hA, Nat.lt_of_lt_of_le hg hb.size, fun k hk => (hb.cell (p := ⟨g, _, none⟩) hg).trans (hp k hk)⟩
theorem cell_ne_map {W : World} {g i b : Nat} {v : Value} (h : W.cell? ⟨g, i, none⟩ = some v) (hb : ∃ es c, W.heap[b]? = some (.map es c)) : g ≠ b := by
  rintro rfl
  obtain ⟨es, c, hb⟩ := hb
  simp [World.cell?, hb] at h
theorem gby_below {a b c : World} {r : Option Nat} (h : a.grownBy b r) (hb : Below b.heap.size b c) : a.grownBy c r :=
  ⟨hb.os.trans h.os, hb.tape.trans h.tape, hb.output.trans h.output, Nat.le_trans h.size hb.size, fun i hi hne => (hb.block i (Nat.lt_of_lt_of_le hi h.size)).trans (h.block i hi hne)⟩
theorem gby_trans {a b c : World} {r : Option Nat} (h : a.grownBy b r) (k : b.grownBy c r) : a.grownBy c r :=
  ⟨k.os.trans h.os, k.tape.trans h.tape, k.output.trans h.output, Nat.le_trans h.size k.size, fun i hi hne => (k.block i (Nat.lt_of_lt_of_le hi h.size) hne).trans (h.block i hi hne)⟩
theorem below_gby {a b c : World} {r : Option Nat} (h : Below a.heap.size a b) (k : b.grownBy c r) : a.grownBy c r := gby_trans ⟨h.os, h.tape, h.output, h.size, fun i hi _ => h.block i hi⟩ k
theorem encM_len (m : Mt) : (encM m).length = 3 := rfl
theorem meet_cells {W : World} {B g n c : Nat} {M : List Mt} (h : W.ownsRow B 73 3 (.slice (some ⟨g, 0, none⟩) n c) M.length (M.flatMap encM)) {j : Nat} {m : Mt} (hm : M[j]? = some m) :
    W.cell? ⟨g, j * 3, none⟩ = some (.int .i64 (m.a : Nat)) ∧ W.cell? ⟨g, j * 3 + 1, none⟩ = some (.int .i64 (m.b : Nat)) ∧ W.cell? ⟨g, j * 3 + 2, none⟩ = some (.int .i64 m.kind) := by
  have key : ∀ i u, (M.flatMap encM)[i]? = some u → W.cell? ⟨g, i, none⟩ = some u := by
    intro i u hi
    have := h.cells (g := g) rfl i u hi
    have e : (⟨g, 0, none⟩ : Addr).add i = ⟨g, i, none⟩ := by simp only [Addr.add, Nat.zero_add]; split <;> simp_all
    rw [← e]
    exact this
  have k0 := flat_get encM_len M j 0 (by omega)
  have k1 := flat_get encM_len M j 1 (by omega)
  have k2 := flat_get encM_len M j 2 (by omega)
  rw [hm] at k0 k1 k2
  exact ⟨key _ _ k0, key _ _ k1, key _ _ k2⟩
set_option maxRecDepth 100000 in
set_option maxHeartbeats 16000000 in
theorem bmeets_fn (S : List Sg) (av lv : Value) (fb : Nat) (w : World) (hs : SgS w av S) (hl : CntS w lv S.length) (hn : S.length ≤ 1000) (hm : MapTw w fb []) :
    Calls Tryz.prog 34 #[av, lv, .map (some fb)] w fun e w' => e = .returned (.tuple #[]) ∧ w.grownBy w' (some fb) ∧ ∃ fl, MapTw w' fb fl ∧ FouR (allP S) fl ∧ fl.length ≤ 1000000 := by
  obtain ⟨i0, hi0, hz0, hz1, hz2⟩ := info_parts3 info_seg
  have HI0 := hide hi0
  have HZ0 := hide hz0
  have HZ1 := hide hz1
  have HZ2 := hide hz2
  clear hi0 hz0 hz1 hz2
  obtain ⟨A, c, rfl, hA⟩ := hs
  obtain ⟨Al, cl, rfl, hAl⟩ := hl
  have HA := hide hA
  have HAL := hide hAl
  obtain ⟨n, hnn⟩ : ∃ n, S.length = n := ⟨_, rfl⟩
  have HN := hide hnn
  have HM := hide hm
  rw [hnn] at HAL hn ⊢
  clear hA hAl hnn hm
  go_enter Tryz.func34, Tryz.ntmps34
  go_wp2_with fail
  go_loopw [6, 7, 8, 28] (fun vo u7 u8 i wr => ∃ (k : Nat) (Ao : Option Addr) (co : Nat) (lo hi : Int), k ≤ n ∧ i = .int .i64 k ∧ vo = .slice Ao k co ∧ u7 = .int .i64 lo ∧ u8 = .int .i64 hi ∧ Hid (wr.ownsRow w.heap.size 68 4 (.slice Ao k co) k ((S.take k).flatMap encS)) ∧ Hid (Below w.heap.size w wr)) (fun _ _ _ i _ => n - (intOf i).toNat)
  case atStart => exact ⟨0, none, 0, 0, 0, Nat.zero_le _, rfl, rfl, rfl, rfl, World.ownsRow_nil _ _ _ _, Below.refl _ _⟩
  case round =>
    obtain ⟨k, Ao, co, lo, hi, hk, rfl, rfl, rfl, rfl, hro, hbw⟩ := hrel
    by_cases hlt : k < n
    · have hlt2 : k < S.length := by rw [HN.out]; exact hlt
      obtain ⟨g, o, rfl, hg, hp⟩ := HA.out.resolve_left (by intro e; rw [e] at hlt2; simp at hlt2)
      obtain ⟨gl, ol, rfl, hgl, hpl⟩ := HAL.out.resolve_left (by omega)
      obtain ⟨d0, d1, d2, d3⟩ := hp k _ (List.getElem?_eq_getElem hlt2)
      have l0 := (hbw.out.cell (p := ⟨gl, _, none⟩) hgl).trans (hpl k hlt)
      replace d0 := (hbw.out.cell (p := ⟨g, _, none⟩) hg).trans d0
      replace d1 := (hbw.out.cell (p := ⟨g, _, none⟩) hg).trans d1
      replace d2 := (hbw.out.cell (p := ⟨g, _, none⟩) hg).trans d2
      replace d3 := (hbw.out.cell (p := ⟨g, _, none⟩) hg).trans d3
      have HTK : Hid ((S.take (k + 1)).flatMap encS = (S.take k).flatMap encS ++ encS S[k]) := hide (by
        rw [List.take_add_one, List.getElem?_eq_getElem hlt2, List.flatMap_append]; simp)
      generalize S[k] = s at *
      obtain ⟨⟨x1, y1⟩, ⟨x2, y2⟩⟩ := s
      simp only at d0 d1 d2 d3
      have HSE : Hid (encS ⟨⟨x1, y1⟩, ⟨x2, y2⟩⟩ = [.int .i64 x1, .int .i64 y1, .int .i64 x2, .int .i64 y2]) := hide rfl
      have k0 : (0 : Int) ≤ k := by omega
      have k1 : (k : Int) < (n : Nat) := by omega
      have HL := hide hlt
      have HMS := hide (show n - (k + 1) < n - k from by omega)
      have hba : Below wr.heap.size wr (wr.alloc (.cells #[.int .i64 x1, .int .i64 y1, .int .i64 x2, .int .i64 y2] 68)) := (Below.refl _ _).alloc (Nat.le_refl _) _
      have hnb := heap_alloc_new wr (.cells #[.int .i64 x1, .int .i64 y1, .int .i64 x2, .int .i64 y2] 68)
      obtain ⟨wd, hwd⟩ : ∃ wd, wr.alloc (.cells #[.int .i64 x1, .int .i64 y1, .int .i64 x2, .int .i64 y2] 68) = wd := ⟨_, rfl⟩
      rw [hwd] at hba hnb
      obtain ⟨e0, e1, e2, e3⟩ : wd.cell? ⟨wr.heap.size, 0, none⟩ = some (.int .i64 x1) ∧ wd.cell? ⟨wr.heap.size, 1, none⟩ = some (.int .i64 y1) ∧ wd.cell? ⟨wr.heap.size, 2, none⟩ = some (.int .i64 x2) ∧ wd.cell? ⟨wr.heap.size, 3, none⟩ = some (.int .i64 y2) := ⟨cell_of_row wd _ 0 _ _ _ hnb, cell_of_row wd _ 1 _ _ _ hnb, cell_of_row wd _ 2 _ _ _ hnb, cell_of_row wd _ 3 _ _ _ hnb⟩
      have hbb : Below wd.heap.size wd (wd.alloc (.cells #[.int .i64 x1, .int .i64 y1, .int .i64 x2, .int .i64 y2] 68)) := (Below.refl _ _).alloc (Nat.le_refl _) _
      have HRO := hide (own_below hro.out (bto hba hbb))
      have HBW := hide (bto hbw.out (bto hba hbb))
      have HNB := hide (blkB hbb hnb)
      have HOB : Hid (∀ b, (Value.slice Ao k co).ownBlock = some b → b < wr.heap.size) := hide (fun b hb => (own_base hro.out hb).2)
      clear hro hbw hlt hlt2 hp hpl hba hnb hbb
      go_wp2_with (at_builtin; go_must (refine wpList_append_lies _ rfl (.tmp 37) (.tmp 39) 54 rfl w.heap.size 68 i0 (.agg #[.int .i64 0, .int .i64 0, .int .i64 0, .int .i64 0]) 4 32 Tryz.underlying54 HI0.out HZ0.out HZ1.out HZ2.out rfl (by decide) (.slice Ao k co) k ((S.take k).flatMap encS) rfl ?c0 ⟨wd.heap.size, 0, none⟩ 1 1 [.int .i64 x1, .int .i64 y1, .int .i64 x2, .int .i64 y2] rfl rfl ?c1 ?c2 (by decide) ?c3 ?c4 ?c5 (wd.heap.size + 1) ?c6 ?_))
      case c0 => exact HRO.out
      case c1 => intro j u hj; exact World.news_of_block (cs := #[.int .i64 x1, .int .i64 y1, .int .i64 x2, .int .i64 y2]) (t := 68) (fr := (0, 0)) (heap_alloc_new wd _) j u hj
      case c2 => intro u hu; simp at hu; rcases hu with rfl | rfl | rfl | rfl <;> rfl
      case c3 => unfold maxLen; omega
      case c4 => omega
      case c5 => simpa using HBW.out.size
      case c6 => simp
      intro g9 cap w9 hown9 hgrow9 hat9 _
      have hb9 : w9.heap[wr.heap.size]? = some (.cells #[.int .i64 x1, .int .i64 y1, .int .i64 x2, .int .i64 y2] 68 (0, 0)) := (hgrow9.block _ (lt_of_block HNB.out) (fun e => by have := HOB.out _ e.symm; omega)).trans HNB.out
      have HRO9 : Hid (w9.ownsRow w.heap.size 68 4 (.slice (some ⟨g9, 0, none⟩) (k + 1) cap) (k + 1) ((S.take (k + 1)).flatMap encS)) := hide (by rw [HTK.out, HSE.out]; exact hown9)
      have HBW9 := hide (below_row HBW.out hgrow9 (fun r hr => (own_base HRO.out hr).1))
      have HB9 := hide hb9
      clear hown9 hgrow9 hat9 HRO HBW HNB HOB e0 e1 e2 e3 d0 d1 d2 d3 l0 hwd hb9
      obtain ⟨bx, hbx⟩ : ∃ bx, wr.heap.size = bx := ⟨_, rfl⟩
      rw [hbx] at HB9
      have e0 : w9.cell? ⟨bx, 0, none⟩ = some (.int .i64 x1) := cell_of_row w9 _ 0 _ _ _ HB9.out
      have e2 : w9.cell? ⟨bx, 2, none⟩ = some (.int .i64 x2) := cell_of_row w9 _ 2 _ _ _ HB9.out
      by_cases hk0 : k = 0
      · have hk1 : (k : Int) ≤ 0 := by omega
        have HK0 := hide hk0
        clear hk0
        go_wp2_with fail
        go_quiet (fail)
        have HROA := hide (own_below HRO9.out (below_drewN w9 nq))
        have HBWA := hide (bto HBW9.out (below_drewN w9 nq))
        have e0' : (w9.drewN nq).cell? ⟨bx, 0, none⟩ = some (.int .i64 x1) := e0
        have e2' : (w9.drewN nq).cell? ⟨bx, 2, none⟩ = some (.int .i64 x2) := e2
        clear e0 e2 HRO9 HBW9 HB9
        generalize w9.drewN nq = wy at *
        generalize min x1 x2 = lo1 at *
        generalize max x1 x2 = hi1 at *
        go_wp2_with fail
        go_quiet (fail)
        have HROB := hide (own_below HROA.out (below_drewN wy nq))
        have HBWB := hide (bto HBWA.out (below_drewN wy nq))
        go_wp2_with fail
        refine ⟨⟨k + 1, some ⟨g9, 0, none⟩, cap, _, _, HL.out, by go_num, rfl, rfl, rfl, HROB, HBWB⟩, ?_⟩
        have := HMS.out
        simp [intOf]; omega
      · have hk1 : (0 : Int) < k := by omega
        clear hk0
        go_wp2_with fail
        go_quiet (fail)
        have HROB := hide (own_below HRO9.out (below_drewN w9 nq))
        have HBWB := hide (bto HBW9.out (below_drewN w9 nq))
        go_wp2_with fail
        refine ⟨⟨k + 1, some ⟨g9, 0, none⟩, cap, _, _, HL.out, by go_num, rfl, rfl, rfl, HROB, HBWB⟩, ?_⟩
        have := HMS.out
        simp [intOf]; omega
    · obtain rfl : k = n := by omega
      have k1 : ¬ (k : Int) < (k : Nat) := by omega
      have HSG : Hid (SgS wr (.slice Ao k co) S) := hide (by
        have h1 := hro.out
        have h2 := HN.out
        subst h2
        rw [List.take_length] at h1
        exact sgS_of_own h1)
      have HSW := hide (sweep_any S _ wr HSG.out (by have := HN.out; omega))
      have HBW := hide hbw.out
      have k2 : (k : Int) ≤ 20000 := by omega
      clear hro hbw hlt
      go_wp2_with fail
      refine HSW.out.mono ?_
      rintro _ w5 ⟨pv, rfl, hp5, hb5⟩
      have hlen : (allP S).length ≤ 1000000 := by
        have h1 := allP_len S
        rw [HN.out] at h1
        have h2 : k * k ≤ 1000 * 1000 := Nat.mul_le_mul hn hn
        omega
      obtain ⟨A5, c5, rfl⟩ := own_slc hp5
      have HP5 := hide hp5
      have HB5 := hide (bto HBW.out hb5)
      have HM5 := hide (HM.out.kept (bgrow (bto HBW.out hb5)) (by simp))
      obtain ⟨pn, hpn⟩ : ∃ pn, (allP S).length = pn := ⟨_, rfl⟩
      have HPN := hide hpn
      rw [hpn] at HP5 hlen ⊢
      clear hp5 hb5 HSW HSG hpn k1 k2
      go_wp2_with fail
      go_loopw [84] (fun i wr => ∃ (j : Nat) (fl : List (Pt × Value)), j ≤ pn ∧ i = .int .i64 j ∧ fl.length ≤ j ∧ Hid (FouR ((allP S).take j) fl) ∧ Hid (MapTw wr fb fl) ∧ Hid (w5.grownBy wr (some fb))) (fun i _ => pn - (intOf i).toNat)
      case atStart => exact ⟨0, [], Nat.zero_le _, rfl, Nat.le_refl _, (fun q v => by simp [getL]), HM5, ⟨rfl, rfl, rfl, Nat.le_refl _, fun _ _ _ => rfl⟩⟩
      case round =>
        obtain ⟨j, fl, hj, rfl, hfl, hfr, hmt, hgw⟩ := hrel
        by_cases hlt : j < pn
        · obtain ⟨m, hm⟩ : ∃ m, (allP S)[j]? = some m := ⟨_, List.getElem?_eq_getElem (by rw [HPN.out]; exact hlt)⟩
          have hml := allP_lt (List.mem_of_getElem? hm)
          rw [HN.out] at hml
          have HF9 := hide (hfr.out.put hm)
          have hp5 := HP5.out
          rw [← HPN.out] at hp5
          obtain ⟨g5, cap5, hv5, _, _⟩ := hp5.form (by rw [HPN.out]; omega)
          rw [HPN.out] at hv5
          rw [Value.slice.injEq] at hv5
          obtain ⟨rfl, hnl, rfl⟩ := hv5
          clear hnl
          have hp6 := own_kept hp5 hgw.out (fun b hb e => own_ne_map hp5 (map_blk HM5.out) (by rw [hb]; exact e.symm))
          obtain ⟨q0, q1, q2⟩ := meet_cells hp6 hm
          obtain ⟨gl, ol, rfl, hgl, hpl⟩ := HAL.out.resolve_left (by omega)
          have hglf : gl ≠ fb := cell_ne_map (hpl m.a hml.1) (map_blk HM.out)
          have hcl : ∀ i, i < k → wr.cell? ⟨gl, ol + i, none⟩ = some (.int .i64 (i : Nat)) := fun i hi => by
            have e1 : wr.heap[gl]? = w.heap[gl]? := (hgw.out.block gl (Nat.lt_of_lt_of_le hgl HB5.out.size) (fun e => hglf (Option.some.inj e))).trans (HB5.out.block gl hgl)
            exact (World.cell?_of_block (a := ⟨gl, ol + i, none⟩) e1).trans (hpl i hi)
          have hba : Below wr.heap.size wr (wr.alloc (.cells #[.int .i64 (m.a : Nat), .int .i64 (m.b : Nat), .int .i64 m.kind] 73)) := (Below.refl _ _).alloc (Nat.le_refl _) _
          have hnb := heap_alloc_new wr (.cells #[.int .i64 (m.a : Nat), .int .i64 (m.b : Nat), .int .i64 m.kind] 73)
          have hla : (wr.alloc (.cells #[.int .i64 (m.a : Nat), .int .i64 (m.b : Nat), .int .i64 m.kind] 73)).cell? ⟨gl, ol + m.a, none⟩ = some (.int .i64 (m.a : Nat)) := (hba.cell (p := ⟨gl, _, none⟩) (Nat.lt_of_lt_of_le hgl (below_gby HB5.out hgw.out).size)).trans (hcl m.a hml.1)
          have hlb : (wr.alloc (.cells #[.int .i64 (m.a : Nat), .int .i64 (m.b : Nat), .int .i64 m.kind] 73)).cell? ⟨gl, ol + m.b, none⟩ = some (.int .i64 (m.b : Nat)) := (hba.cell (p := ⟨gl, _, none⟩) (Nat.lt_of_lt_of_le hgl (below_gby HB5.out hgw.out).size)).trans (hcl m.b hml.2)
          have hmd := hmt.out.kept (bgrow (bto hba (below_drew _))) (by simp)
          obtain ⟨W3, hst, hml3, htu⟩ := hmd.store Tryz.underlying95 (by unfold maxLen; omega) (x := ⟨(m.a : Nat), (m.b : Nat)⟩) (by unfold PlMap.ptKeys okPt; simp only; omega) (.int .i64 m.kind)
          change (Instr.mapUpdate 95 (.map (some fb)) (.agg #[.int .i64 (m.a : Nat), .int .i64 (m.b : Nat)]) (.int .i64 m.kind)).run _ _ = _ at hst
          have HM3 := hide hml3
          have HG3 := hide (gby_trans (gby_below hgw.out (bto hba (below_drew _))) htu.grown)
          have HST := hide hst
          have HL := hide hlt
          have HMS := hide (show pn - (j + 1) < pn - j from by omega)
          have HFL := hide hfl
          obtain ⟨c0, c1⟩ : (wr.alloc (.cells #[.int .i64 (m.a : Nat), .int .i64 (m.b : Nat), .int .i64 m.kind] 73)).cell? ⟨wr.heap.size, 0, none⟩ = some (.int .i64 (m.a : Nat)) ∧ (wr.alloc (.cells #[.int .i64 (m.a : Nat), .int .i64 (m.b : Nat), .int .i64 m.kind] 73)).cell? ⟨wr.heap.size, 1, none⟩ = some (.int .i64 (m.b : Nat)) := ⟨cell_of_row _ _ 0 _ _ _ hnb, cell_of_row _ _ 1 _ _ _ hnb⟩
          have c2 : (wr.alloc (.cells #[.int .i64 (m.a : Nat), .int .i64 (m.b : Nat), .int .i64 m.kind] 73)).cell? ⟨wr.heap.size, 2, none⟩ = some (.int .i64 m.kind) := cell_of_row _ _ 2 _ _ _ hnb
          have j0 : (0 : Int) ≤ j := by omega
          have j1 : (j : Int) < (pn : Nat) := by omega
          clear hm hp5 hp6 hpl hcl hglf hba hnb hmd hml3 htu hst hfr hmt hgw hlt hfl
          generalize m.a = ma at *
          generalize m.b = mb at *
          generalize m.kind = mk at *
          obtain ⟨ml1, ml2⟩ := hml
          have a1 : (ma : Int) < (k : Nat) := by omega
          have b1 : (mb : Int) < (k : Nat) := by omega
          have a0 : (0 : Int) ≤ (ma : Int) := by omega
          have b0 : (0 : Int) ≤ (mb : Int) := by omega
          go_wp2_with fail
          generalize wr.alloc _ = wo at *
          go_still_tail 14, (by kernel_rfl)
          have hst := HST.out
          clear HST
          change wpList _ _ _ _ _ wo.drew
          go_wp2_with fail
          refine ⟨⟨j + 1, _, HL.out, by go_num, ?_, HF9, HM3, HG3⟩, ?_⟩
          · rw [putL_len]
            have := HFL.out
            split <;> omega
          · have := HMS.out
            simp [intOf]; omega
        · have k1 : ¬ (j : Int) < (pn : Nat) := by omega
          have HF : Hid (FouR (allP S) fl) := hide (by
            have h1 := hfr.out
            rw [List.take_of_length_le (by rw [HPN.out]; omega)] at h1
            exact h1)
          have HMT := hide hmt.out
          have HG := hide (below_gby HB5.out hgw.out)
          have HFL := hide (show fl.length ≤ 1000000 by omega)
          clear hfr hmt hgw hlt
          go_wp2_with fail
          exact bodyPost_ret (v := .tuple #[]) (by simp [results, Tryz.results34, go_sem]) rfl ⟨rfl, HG.out, fl, HMT.out, HF.out, HFL.out⟩
end Go.Proofs.YtfkgjbdeicggaaaGreat
