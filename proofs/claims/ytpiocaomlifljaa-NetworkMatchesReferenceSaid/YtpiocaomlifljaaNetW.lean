/-
  network.Parts, walked.
-/
import Derived.Test.YtpiocaomlifljaaNetVa
import Derived.Test.YtpiocaomlifljaaPlain6
import Derived.Deep.RegionHeld3
import Derived.Deep.AppendLies
import Derived.Deep.RegionLaw
namespace Go.Proofs.Ytpiocaomlifljaa
open Go.RowKit Go.Proofs.PlLex Go.Proofs.PlNet Go.Proofs.PlMap
attribute [local go_sem] run_makeMap

/-- A range over a map with strings as keys. -/
abbrev RangeS (w : World) (b r : Nat) (l : List (ByteArray × Value)) (left : ByteArray → Bool) (cnt : Nat) : Prop := RangeL (strKeys Try.prog 9 Try.underlying9) w b r l left cnt
theorem info_strs : (Try.prog.info? 39).map (fun i => (i.zero, i.size, i.bytes)) = some (some (.slice none 0 0), 1, 24) := by kernel_rfl
theorem info_string : (Try.prog.info? 9).map (fun i => (i.zero, i.size, i.bytes)) = some (some (.string ⟨#[]⟩), 1, 16) := by kernel_rfl
theorem zero_int (w : World) : (zeroValue 3).run Try.prog w = .ok (.int .i64 0) w := by kernel_rfl
set_option maxRecDepth 100000 in
set_option maxHeartbeats 8000000 in
theorem parts_any (l : List Ob) (v : Value) (w : World) (hv : MapI w v l) :
    Calls Try.prog 19 #[.agg #[v]] w fun e w' => ∃ rv, e = .returned rv ∧ Below w.heap.size w w' ∧ (mapB l = false → GrS w' rv []) ∧ (mapB l = true → ∃ R : BA → BA, (∀ x y, R x = R y ↔ Con (ER l) x y) ∧ GrS w' rv ((partsG R (usedL l l)).map (·.2))) := by
  obtain ⟨i0, hi, hz0, hz1, hz2⟩ := info_parts info_strs
  have HI := hide hi
  have HZ0 := hide hz0
  have HZ1 := hide hz1
  have HZ2 := hide hz2
  obtain ⟨j0, hj, hy0, hy1, hy2⟩ := info_parts info_string
  have HJ0 := hide hj
  have HY0 := hide hy0
  have HY1 := hide hy1
  have HY2 := hide hy2
  clear hi hz0 hz1 hz2 hj hy0 hy1 hy2
  have HOF := hide (fun w' (hb : Below w.heap.size w w') => of_any l v w' (hv.below hb).obs hv.len hv.ok)
  have HV := hide hv
  have hl := hv.len
  obtain ⟨A, c, rfl, _, hA⟩ := hv.obs
  have HA := hide hA
  obtain ⟨wa, hwa⟩ : ∃ wa, w.alloc (.cells #[.slice A l.length c] 24) = wa := ⟨_, rfl⟩
  have ha : Below w.heap.size w wa := by rw [← hwa]; exact (Below.refl _ _).alloc (Nat.le_refl _) _
  have hm : wa.heap[w.heap.size]? = some (.cells #[.slice A l.length c] 24 (0, 0)) := by rw [← hwa]; exact heap_alloc_new w _
  have dm := (blk1 hm).1
  have HOF2 := hide (HOF.out wa ha)
  have HWA := hide ha
  clear hA hv HOF
  cases hmb : mapB l with
  | false =>
    rw [hmb] at HOF2
    clear hmb
    go_enter Try.func19, Try.ntmps19
    go_wp2_with fail
    refine HOF2.out.mono ?_
    rintro _ w1 (⟨_, rfl, hb⟩ | ⟨h, _⟩)
    · have HB := hide (bto ha hb)
      clear hwa ha hm dm hb
      go_wp2_with fail
      go_ret
      exact ⟨_, rfl, HB.out, fun _ => ⟨none, 0, rfl, Nat.le_refl _, .inl rfl⟩, fun h => by cases h⟩
    · cases h
  | true =>
    rw [hmb] at HOF2
    have HMB := hide hmb
    clear hmb
    go_enter Try.func19, Try.ntmps19
    go_wp2_with fail
    refine HOF2.out.mono ?_
    rintro _ w1 (⟨h, _⟩ | ⟨_, s, nl, wl, rfl, hnr⟩)
    · cases h
    have HN := hide hnr
    obtain ⟨w2, hw2⟩ : ∃ w2, (w1.alloc (.map #[] 0)).alloc (.cells #[.map (some w1.heap.size)] 77) = w2 := ⟨_, rfl⟩
    have hp2 : PtI w1 [] w2 := by
      rw [← hw2]
      refine ⟨?_, (mapL_made _ w1).alloc _, ((Below.refl _ _).alloc (Nat.le_refl _) _).alloc (by simp) _⟩
      have := heap_alloc_new (w1.alloc (.map #[] 0)) (.cells #[.map (some w1.heap.size)] 77)
      simpa using this
    have n2 : w2.cell? ⟨s + 2, 2, none⟩ = some (.map (some (s + 1))) := cell_of_row w2 _ 2 _ _ _ (blkB hp2.below hnr.nb)
    obtain ⟨w3, hr3, hrg3, hg3, hs3⟩ := (hnr.ways.kept (grown_none hp2.below) (by simp)).range Try.underlying65
    have hs2 : w2.heap.size = w1.heap.size + 2 := by rw [← hw2]; simp
    have hb3 : Below w2.heap.size w2 w3 := ⟨hg3.os, hg3.tape, hg3.output, hg3.size, fun i hi => hg3.block i hi (by simp)⟩
    have hbw : s + 1 < w1.heap.size := hnr.ways.lt
    have HP3 := hide (hp2.lift hb3)
    have HRG3 := hide hrg3
    have HS2 := hide hs2
    have HW2 := hide hw2
    clear hwa hm dm ha HOF2 hnr hp2 hrg3 hg3 hs3 hb3 hs2
    go_wp2_with fail
    clear hw2 n2 hr3
    obtain ⟨N, hN1, hN2⟩ : ∃ N : Nat, 100000 ≤ N ∧ ∀ k, k ≤ 100000 → k * N ≤ 10000000000 := ⟨100000, Nat.le_refl _, fun k hk => by omega⟩
    have HN1 := hide hN1
    have HN2 := hide hN2
    clear hN1 hN2
    go_loopw [] (fun wr => ∃ (ul : List (ByteArray × Value)) (up : ByteArray → Option ByteArray) (R : ByteArray → ByteArray) (d : ByteArray → Nat) (p : List (ByteArray × ByteArray)) (left : ByteArray → Bool) (cnt : Nat), Hid (PtI w1 ul wr) ∧ Hid (RangeS wr (s + 1) w2.heap.size wl left cnt) ∧ Hid (UpR ul up) ∧ Hid (SetI up R d p) ∧ Hid (∀ x y, (x, y) ∈ p ↔ ∃ o ∈ waysO l, left o.id = false ∧ x ∈ o.refs ∧ y = headR o.refs) ∧ Hid (ul.length ≤ p.length ∧ p.length + cnt * N ≤ wl.length * N)) (fun wr => wr.rangeLeft (s + 1) w2.heap.size)
    case atStart =>
      refine ⟨[], fun _ => none, id, fun _ => 0, [], _, _, HP3, HRG3, ⟨fun s => rfl, fun s y h => by cases h⟩, SetI.nil, fun x y => ?_, ⟨Nat.le_refl _, by simp⟩⟩
      constructor
      · intro h; cases h
      · rintro ⟨o, ho, h, _⟩
        cases e : getL wl o.id with
        | none => exact (HN.out.wr.hasnt o.id e o ho rfl).elim
        | some v => rw [e] at h; cases h
    case round =>
      clear HP3 HRG3
      obtain ⟨ul, up, R, d, p, left, cnt, hpt, hrg, hur, hst, hpp, hln⟩ := hrel
      rcases hrg.out.next with ⟨hc0, hl0, hnx⟩ | ⟨x, v, w5, cnt', hok, hlx, hgx, hnx, hrg5, hlt5, hg5, hs5, hen⟩
      · -- every way is through
        have hin : ∀ x, (up x).isSome = inWays l x := by
          intro x
          rw [Bool.eq_iff_iff, inWays_iff, hst.out.dom]
          exact ⟨fun ⟨y, hy⟩ => ⟨y, by obtain ⟨o, h1, _, h3, h4⟩ := (hpp.out x y).1 hy; exact ⟨o, h1, h3, h4⟩⟩, fun ⟨y, o, h1, h3, h4⟩ => ⟨y, (hpp.out x y).2 ⟨o, h1, hl0 o.id (Nat.le_trans (HV.out.ok o (List.mem_filter.1 h1).1).1 (by unfold maxLen; omega)), h3, h4⟩⟩⟩
        have hcon : ∀ x y, R x = R y ↔ Con (ER l) x y := by
          intro x y
          rw [hst.out.con x y]
          refine con_iff (fun x y => ?_) x y
          exact ⟨fun hy => by obtain ⟨o, h1, _, h3, h4⟩ := (hpp.out x y).1 hy; exact ⟨o, h1, h3, h4⟩, fun ⟨o, h1, h3, h4⟩ => (hpp.out x y).2 ⟨o, h1, hl0 o.id (Nat.le_trans (HV.out.ok o (List.mem_filter.1 h1).1).1 (by unfold maxLen; omega)), h3, h4⟩⟩
        have HUF := hide hst.out.uf
        have HIN := hide hin
        have HCON := hide hcon
        obtain ⟨w6, hw6⟩ : ∃ w6, wr.alloc (.map #[] 0) = w6 := ⟨_, rfl⟩
        obtain ⟨bm, hbm⟩ : ∃ bm, wr.heap.size = bm := ⟨_, rfl⟩
        have hpa : PaI w1 bm ul [] [] [] (.slice none 0 0) w6 := by
          rw [← hw6, ← hbm]
          refine ⟨hpt.out.lift ((Below.refl _ _).alloc (Nat.le_refl _) _), mapL_made _ wr, ?_, World.ownsRow_nil _ _ _ _, (fun i r h => by cases i <;> cases h), (fun i j iv jv b h => by cases i <;> cases h)⟩
          exact lt_of_block hpt.out.sb
        have n2 : wr.cell? ⟨s + 2, 0, none⟩ = some (.slice A l.length c) := cell_of_row wr _ 0 _ _ _ (blkB hpt.out.below HN.out.nb)
        have n3 : w6.cell? ⟨s + 2, 0, none⟩ = some (.slice A l.length c) := cell_of_row w6 _ 0 _ _ _ (blkB hpa.pt.below HN.out.nb)
        have HPA := hide hpa
        have HBM := hide hbm
        clear hpt hrg hst hpp hln hin hcon hpa hl0 n2
        go_wp2_with fail
        clear n3 hw6
        go_loopw [10, 56] (fun vo i wr => ∃ (k : Nat) (al : List (ByteArray × Value)) (acc : List (BA × List BA)) (vs : List Value) (Ao : Option Addr) (n co : Nat), k ≤ l.length ∧ i = .int .i64 k ∧ vo = .slice Ao n co ∧ n ≤ k ∧ Hid (n = acc.length) ∧ Hid (acc = partsG R (usedL l (l.take k))) ∧ Hid (∀ t, getL al t = (idxG t acc).map (fun i => Value.int .i64 i)) ∧ Hid (al.length ≤ n) ∧ Hid (PaI w1 bm ul al (acc.map (·.2)) vs (.slice Ao n co) wr)) (fun _ i _ => l.length - (intOf i).toNat)
        case atStart => exact ⟨0, [], [], [], none, 0, 0, Nat.zero_le _, rfl, rfl, Nat.le_refl _, rfl, rfl, fun t => rfl, Nat.zero_le _, HPA⟩
        case round =>
          clear HPA
          obtain ⟨k, al, acc, vs, Ao, n, co, hk, rfl, rfl, hnk, hna, hacc, hix, hal, hpa⟩ := hrel
          by_cases hlt : k < l.length
          · obtain ⟨g, o, rfl, hg, hp⟩ := HA.out.resolve_left (by rintro rfl; simp at hlt)
            obtain ⟨rv, tv, hoa⟩ := hp k _ (List.getElem?_eq_getElem hlt)
            obtain ⟨Ar, cr, hrv, _⟩ := id hoa.refs
            obtain ⟨At, ct, htv, _⟩ := id hoa.tags
            subst hrv
            subst htv
            have hbw1 : Below w.heap.size w wr := bto HWA.out (bto HN.out.below hpa.out.pt.below)
            obtain ⟨c0, c1, c2, c3, c4, c5, _, _⟩ := hoa.below hg hbw1
            have hsn := usedL_snoc l l k hlt
            have hok := HV.out.ok _ (List.getElem_mem hlt)
            generalize l[k] = t at *
            have k0 : (0 : Int) ≤ k := by omega
            have k1 : (k : Int) < l.length := by omega
            have HL := hide hlt
            have HMS := hide (show l.length - (k + 1) < l.length - k from by omega)
            obtain ⟨wo, hwo⟩ : ∃ wo, wr.alloc (.cells #[.string t.id, .int .i64 t.kind, .int .i64 t.x, .int .i64 t.y, .slice Ar t.refs.length cr, .slice At t.tags.length ct] 42) = wo := ⟨_, rfl⟩
            have hblk : wo.heap[wr.heap.size]? = some (.cells #[.string t.id, .int .i64 t.kind, .int .i64 t.x, .int .i64 t.y, .slice Ar t.refs.length cr, .slice At t.tags.length ct] 42 (0, 0)) := by rw [← hwo]; exact heap_alloc_new _ _
            have hpo := hpa.out.lift (show Below wr.heap.size wr wo by rw [← hwo]; exact (Below.refl _ _).alloc (Nat.le_refl _) _)
            have d0 : wo.cell? ⟨wr.heap.size, 0, none⟩ = some (.string t.id) := cell_of_row wo _ 0 _ _ _ hblk
            have d1 : wo.cell? ⟨wr.heap.size, 1, none⟩ = some (.int .i64 t.kind) := cell_of_row wo _ 1 _ _ _ hblk
            have q2 : wo.cell? ⟨w1.heap.size + 1, 0, none⟩ = some (.map (some w1.heap.size)) := (blk1 hpo.pt.sb).1
            have hlook := hpo.pt.um.look_ok Try.underlying75 zero_str (x := t.id) (Nat.le_trans hok.1 (by unfold maxLen; omega))
            change (Instr.lookup 75 (.map (some w1.heap.size)) (.string t.id) true).run _ _ = _ at hlook
            have HSN := hide hsn
            have HPO := hide hpo
            have HBL := hide hblk
            have HOK := hide hok
            have HIX := hix
            clear hlt hp hoa hpa hok hsn hpo hblk hbw1 hix
            cases hu : up t.id with
            | none =>
              rw [hur.out.get, hu] at hlook
              have hno : inWays l t.id = false := by rw [← HIN.out, hu]; rfl
              rw [hno, Bool.and_false, if_neg (by decide), List.append_nil] at HSN
              have HAC := hide (show acc = partsG R (usedL l (l.take (k + 1))) by rw [HSN.out]; exact hacc.out)
              clear hu hno hacc
              go_wp2_with fail
              refine ⟨⟨k + 1, al, acc, vs, Ao, n, co, HL.out, by go_num, rfl, by omega, hna, HAC, HIX, hal, HPO⟩, ?_⟩
              have := HMS.out
              simp [intOf]; omega
            | some y =>
              rw [hur.out.get, hu] at hlook
              have hno : inWays l t.id = true := by rw [← HIN.out, hu]; rfl
              rw [hno, Bool.and_true] at HSN
              by_cases h1 : t.kind = 1
              · rw [decide_eq_true h1, if_pos rfl] at HSN
                have HAC := hide (show addG (R t.id) t.id acc = partsG R (usedL l (l.take (k + 1))) by rw [HSN.out, partsG_snoc, ← hacc.out])
                rw [h1] at d1 hwo HBL
                have HTOP := hide (fun W hm => top_any w1.heap.size ul up R d W hm hur.out HUF.out t.id HOK.out.1)
                have HTO := hide (HTOP.out wo HPO.out.pt.um)
                clear hu hno HSN HTOP
                go_wp2_with fail
                refine HTO.out.mono ?_
                rintro _ w8 ⟨rfl, hsz, hb8⟩
                have HP8 := hide (HPO.out.lift hb8)
                have hbl8 := blkB hb8 HBL.out
                have d8 : w8.cell? ⟨wr.heap.size, 0, none⟩ = some (.string t.id) := cell_of_row w8 _ 0 _ _ _ hbl8
                have hok : (R t.id).size ≤ maxLen := Nat.le_trans hsz (by unfold maxLen; omega)
                have hlook2 := HP8.out.am.look_ok Try.underlying50 zero_int (x := R t.id) hok
                change (Instr.lookup 50 (.map (some bm)) (.string (R t.id)) true).run _ _ = _ at hlook2
                have HBL8 := hide hbl8
                have HLT8 := hide (lt_of_block hbl8)
                clear d0 d1 q2 hlook HTO HPO HBL hwo hbl8 c0 c1 c2 c3 c4 c5 hb8 HCON HIN HUF
                obtain ⟨T, hT⟩ : ∃ T, R t.id = T := ⟨_, rfl⟩
                rw [hT] at HAC hlook2 hsz hok ⊢
                have HT := hide hT
                clear hT
                cases hi : idxG T acc with
                | none =>
                  rw [HIX.out, hi] at hlook2
                  have hn9 : n < 100000 := by omega
                  obtain ⟨w5, hst, hml, htu⟩ := HP8.out.am.store Try.underlying50 (by have := hal.out; unfold maxLen; omega) (x := T) hok (.int .i64 n)
                  change (Instr.mapUpdate 50 (.map (some bm)) (.string T) (.int .i64 n)).run _ _ = _ at hst
                  have HP5 := hide (HP8.out.put hml htu)
                  have HBL5 := hide (turned_blk htu HBL8.out (fun e => by
                    obtain ⟨⟨D, ⟨es, clock, hb, _⟩, _⟩, _⟩ := HP8.out.am
                    rw [← e, HBL8.out] at hb
                    cases hb))
                  have hnl0 : n = (acc.map (·.2)).length := by rw [List.length_map]; exact hna.out
                  have hout0 := HP5.out.out
                  rw [← hnl0] at hout0
                  have HOUT0 := hide hout0
                  have HNL0 := hide hnl0
                  have HADD := hide (addG_none T t.id acc hi)
                  have HALX : Hid ((putL al T (.int .i64 n)).length ≤ n + 1) := by
                    have h1 := putL_len al T (.int .i64 n)
                    have h2 := hal.out
                    have h3 : (putL al T (.int .i64 n)).length ≤ n + 1 := by rw [h1]; split <;> omega
                    exact h3
                  have HIXX : Hid (∀ q, getL (putL al T (.int .i64 n)) q = (idxG q (acc ++ [(T, [])])).map (fun i => Value.int .i64 i)) := fun q => by
                    rw [getL_put, idxG_snoc T q [] acc hi]
                    by_cases e : q = T
                    · rw [if_pos e, if_pos e, hna.out]; rfl
                    · rw [if_neg e, if_neg e]; exact HIX.out q
                  clear hml htu hnl0 hout0
                  go_wp2_with (at_builtin; go_must (refine wpList_append_lies _ rfl (.tmp 92) (.tmp 93) 34 rfl w1.heap.size 39 i0 (.slice none 0 0) 1 24 Try.underlying34 HI.out HZ0.out HZ1.out HZ2.out rfl (by decide) (.slice Ao n co) n vs rfl ?c0 ⟨w5.heap.size, 0, none⟩ 1 1 [.slice none 0 0] rfl rfl ?c1 ?c2 (by decide) ?c3 ?c4 ?c5 (w5.heap.size + 1) ?c6 ?_))
                  case c0 => exact own_below HOUT0.out ((Below.refl _ _).alloc (Nat.le_refl _) _)
                  case c1 => exact World.news_of_block (cs := #[.slice none 0 0]) (t := 39) (fr := (0, 0)) (heap_alloc_new w5 _)
                  case c2 => intro u hu; simp at hu; subst hu; rfl
                  case c3 => unfold maxLen; omega
                  case c4 => omega
                  case c5 => have := HP5.out.pt.below.size; simp; omega
                  case c6 => simp
                  intro go cap0 w9 hown9 hgrow9 _ _
                  have hp9 := (HP5.out.lift ((Below.refl _ w5).alloc (Nat.le_refl _) (.cells #[.slice none 0 0] 39))).more (vo' := .slice (some ⟨go, 0, none⟩) (n + 1) cap0) (by rw [← HNL0.out]; exact hown9) hgrow9
                  have hp9 : PaI w1 bm ul (putL al T (.int .i64 n)) ((acc ++ [(T, [])] : List (BA × List BA)).map (·.2)) (vs ++ [.slice none 0 0]) (.slice (some ⟨go, 0, none⟩) (n + 1) cap0) w9 := by rw [List.map_append]; exact hp9
                  have HPX := hide hp9
                  have hbl9 := (hgrow9.block wr.heap.size (Nat.lt_of_lt_of_le (lt_of_block HBL5.out) (by simp)) (row_ne_blk (own_below HOUT0.out ((Below.refl _ _).alloc (Nat.le_refl _) (.cells #[.slice none 0 0] 39))) (blkB ((Below.refl _ _).alloc (Nat.le_refl _) _) HBL5.out) (by decide))).trans (blkB ((Below.refl _ _).alloc (Nat.le_refl _) _) HBL5.out)
                  have d9 : w9.cell? ⟨wr.heap.size, 0, none⟩ = some (.string t.id) := cell_of_row w9 _ 0 _ _ _ hbl9
                  have HBLX := hide hbl9
                  have hobx := lt_of_block hbl9
                  obtain ⟨r, hre⟩ : ∃ r : List BA, r = [] := ⟨_, rfl⟩
                  have HRL := hide (show r.length ≤ 100000 by rw [hre]; simp)
                  have hr1 : ((acc ++ [(T, ([] : List BA))] : List (BA × List BA)))[n]? = some (T, r) := by rw [hre, hna.out]; simp
                  have hr2 : addG T t.id acc = ((acc ++ [(T, ([] : List BA))] : List (BA × List BA))).set n (T, r ++ [t.id]) := by rw [HADD.out, hre, hna.out]; simp
                  have HNX := hide (show n + 1 = ((acc ++ [(T, ([] : List BA))] : List (BA × List BA))).length by rw [List.length_append, ← hna.out]; rfl)
                  clear hi hre hp9 hbl9 hown9 hgrow9 hst hlook2 d8
                  have hL : (((acc ++ [(T, ([] : List BA))] : List (BA × List BA))).map (·.2))[n]? = some r := by rw [List.getElem?_map, hr1]; rfl
                  obtain ⟨iv, hiv, hinn⟩ := HPX.out.inn n r hL
                  obtain ⟨Ai, ci, rfl⟩ := own_slice hinn
                  have hil : n < ((acc ++ [(T, ([] : List BA))] : List (BA × List BA))).length := (List.getElem?_eq_some_iff.1 hr1).1
                  have hnl : n + 1 = (((acc ++ [(T, ([] : List BA))] : List (BA × List BA))).map (·.2)).length := by rw [List.length_map]; exact HNX.out
                  have hout := HPX.out.out
                  rw [← hnl] at hout
                  have q5 : w9.cell? ⟨go, n, none⟩ = some (.slice Ai r.length ci) := by rw [hout.cellAt n (by rw [hnl, List.length_map]; omega)]; exact hiv
                  have q6 : w9.frozen? ⟨go, n, none⟩ = false := hout.frozenAt n
                  have k2 : (0 : Int) ≤ n := by omega
                  have k3 : (n : Int) < (n : Int) + 1 := by omega
                  have hne1 : some go ≠ (Value.slice Ai r.length ci).ownBlock := fun e => row_ne_row hinn hout (by decide) go e.symm rfl
                  have hne2 : some wr.heap.size ≠ (Value.slice Ai r.length ci).ownBlock := row_ne_blk hinn HBLX.out (by decide)
                  have hgl : go < w9.heap.size := (hout.lt go rfl).2
                  have hrl : r.length ≤ 100000 := HRL.out
                  have hbs : w1.heap.size ≤ w9.heap.size := HPX.out.pt.below.size
                  have HINN := hide hinn
                  have HTI := hide (show (((acc ++ [(T, ([] : List BA))] : List (BA × List BA)))[n]?).map (·.1) = some T by rw [hr1]; rfl)
                  have HME := hide (show (((acc ++ [(T, ([] : List BA))] : List (BA × List BA))).map (·.2)).set n (r ++ [t.id]) = (addG T t.id acc).map (·.2) by rw [hr2, List.map_set])
                  have HR2 := hide hr2
                  have HL2 := hide hL
                  have HIV := hide hiv
                  have HNL := hide hnl
                  clear hinn hr1 hr2 hL hiv hil hnl hout
                  go_wp2_with fail
                  go_region_law
                    ((refine step_append_lies _ (by rfl) _ _ _ (by rfl) w1.heap.size 9 j0 (.string ⟨#[]⟩) 1 16 Try.underlying39 HJ0.out HY0.out HY1.out HY2.out rfl (by omega) (.slice Ai r.length ci) r.length (r.map .string) (by rfl) ((HINN.out.alloc _).drew) ⟨w9.heap.size, 0, none⟩ 1 1 [.string t.id] (by rfl) (by rfl) (World.news_of_block (cs := #[.string t.id]) (t := 9) (fr := (0, 0)) (heap_alloc_new w9 _)) (by simp [Value.oneCell']) (by omega) (by unfold maxLen; omega) (by omega) (by simp; omega) (w9.heap.size + 1) (by simp) ?_; intro gg cap wz hownz hgrowz hatz hltz; have hcz : wz.cell? ⟨go, n, none⟩ = some (.slice Ai r.length ci) := (hgrowz.cell_far ⟨go, n, none⟩ (Nat.lt_of_lt_of_le hgl (by simp)) hne1).trans ((World.cell?_alloc_lt w9 _ ⟨go, n, none⟩ hgl).trans q5); have hfz : wz.frozen? ⟨go, n, none⟩ = false := (hgrowz.frozen_far ⟨go, n, none⟩ (Nat.lt_of_lt_of_le hgl (by simp)) hne1).trans ((World.frozen?_alloc_old w9 _ ⟨go, n, none⟩ (by show go ≠ w9.heap.size; omega)).trans q6)))
                  all_goals (
                    have hpg := PaI.grow (HPX.out.lift ((Below.refl _ w9).alloc (Nat.le_refl _) (.cells #[.string t.id] 9)).drew) HNL.out HL2.out HIV.out hownz hgrowz (hatz.imp id (fun e => by rw [e]; simp))
                    have hnl2 : n + 1 = (((acc ++ [(T, ([] : List BA))] : List (BA × List BA))).set n (T, r ++ [t.id])).length := by rw [List.length_set]; exact HNX.out
                    rw [HME.out] at hpg
                    have HPG := hide hpg
                    have hna2 : n + 1 = (addG T t.id acc).length := by rw [HR2.out]; exact hnl2
                    have HIX2 : Hid (∀ q, getL (putL al T (.int .i64 n)) q = (idxG q (addG T t.id acc)).map (fun i => Value.int .i64 i)) := fun q => by rw [HR2.out, idxG_set T q _ ((acc ++ [(T, ([] : List BA))] : List (BA × List BA))) n HTI.out]; exact HIXX.out q
                    have HNA2 := hide hna2
                    clear hpg hnl2 hna2 hownz hgrowz hatz hcz hfz
                    generalize wz.setCell _ _ = wq at *
                    go_wp2_with fail
                    refine ⟨⟨k + 1, putL al T (.int .i64 n), addG T t.id acc, _, _, n + 1, _, HL.out, by go_num, rfl, by omega, HNA2, HAC, HIX2, HALX, HPG⟩, ?_⟩
                    have := HMS.out
                    simp [intOf]; omega)
                | some i =>
                  rw [HIX.out, hi] at hlook2
                  obtain ⟨r, hr1, hr2⟩ := addG_some T t.id acc i hi
                  have hil : i < acc.length := idxG_lt T acc i hi
                  obtain ⟨go, hgo⟩ : ∃ go, Ao = some ⟨go, 0, none⟩ := by
                    rcases HP8.out.out.2 with ⟨_, h⟩ | ⟨go, cap, cur, h, _⟩
                    · rw [List.length_map] at h; omega
                    · cases h; exact ⟨go, rfl⟩
                  subst hgo
                  have HRL := hide (show r.length ≤ 100000 by
                    have h1 := partsG_each R (usedL l (l.take k)) (T, r) (by rw [← hacc.out]; exact List.mem_of_getElem? hr1)
                    have h2 := usedL_len l (l.take k)
                    have h3 := List.length_take_le k l
                    simp only at h1
                    omega)
                  have HALX := hal
                  have hobx := HLT8.out
                  clear hi hil
                  have hL : ((acc).map (·.2))[i]? = some r := by rw [List.getElem?_map, hr1]; rfl
                  obtain ⟨iv, hiv, hinn⟩ := HP8.out.inn i r hL
                  obtain ⟨Ai, ci, rfl⟩ := own_slice hinn
                  have hil : i < (acc).length := (List.getElem?_eq_some_iff.1 hr1).1
                  have hnl : n = ((acc).map (·.2)).length := by rw [List.length_map]; exact hna.out
                  have hout := HP8.out.out
                  rw [← hnl] at hout
                  have q5 : w8.cell? ⟨go, i, none⟩ = some (.slice Ai r.length ci) := by rw [hout.cellAt i (by rw [hnl, List.length_map]; omega)]; exact hiv
                  have q6 : w8.frozen? ⟨go, i, none⟩ = false := hout.frozenAt i
                  have k2 : (0 : Int) ≤ i := by omega
                  have k3 : (i : Int) < (n : Nat) := by have := hna.out; omega
                  have hne1 : some go ≠ (Value.slice Ai r.length ci).ownBlock := fun e => row_ne_row hinn hout (by decide) go e.symm rfl
                  have hne2 : some wr.heap.size ≠ (Value.slice Ai r.length ci).ownBlock := row_ne_blk hinn HBL8.out (by decide)
                  have hgl : go < w8.heap.size := (hout.lt go rfl).2
                  have hrl : r.length ≤ 100000 := HRL.out
                  have hbs : w1.heap.size ≤ w8.heap.size := HP8.out.pt.below.size
                  have HINN := hide hinn
                  have HTI := hide (show ((acc)[i]?).map (·.1) = some T by rw [hr1]; rfl)
                  have HME := hide (show ((acc).map (·.2)).set i (r ++ [t.id]) = (addG T t.id acc).map (·.2) by rw [hr2, List.map_set])
                  have HR2 := hide hr2
                  have HL2 := hide hL
                  have HIV := hide hiv
                  have HNL := hide hnl
                  clear hinn hr1 hr2 hL hiv hil hnl hout
                  go_wp2_with fail
                  go_region_law
                    ((refine step_append_lies _ (by rfl) _ _ _ (by rfl) w1.heap.size 9 j0 (.string ⟨#[]⟩) 1 16 Try.underlying39 HJ0.out HY0.out HY1.out HY2.out rfl (by omega) (.slice Ai r.length ci) r.length (r.map .string) (by rfl) ((HINN.out.alloc _).drew) ⟨w8.heap.size, 0, none⟩ 1 1 [.string t.id] (by rfl) (by rfl) (World.news_of_block (cs := #[.string t.id]) (t := 9) (fr := (0, 0)) (heap_alloc_new w8 _)) (by simp [Value.oneCell']) (by omega) (by unfold maxLen; omega) (by omega) (by simp; omega) (w8.heap.size + 1) (by simp) ?_; intro gg cap wz hownz hgrowz hatz hltz; have hcz : wz.cell? ⟨go, i, none⟩ = some (.slice Ai r.length ci) := (hgrowz.cell_far ⟨go, i, none⟩ (Nat.lt_of_lt_of_le hgl (by simp)) hne1).trans ((World.cell?_alloc_lt w8 _ ⟨go, i, none⟩ hgl).trans q5); have hfz : wz.frozen? ⟨go, i, none⟩ = false := (hgrowz.frozen_far ⟨go, i, none⟩ (Nat.lt_of_lt_of_le hgl (by simp)) hne1).trans ((World.frozen?_alloc_old w8 _ ⟨go, i, none⟩ (by show go ≠ w8.heap.size; omega)).trans q6)))
                  all_goals (
                    have hpg := PaI.grow (HP8.out.lift ((Below.refl _ w8).alloc (Nat.le_refl _) (.cells #[.string t.id] 9)).drew) HNL.out HL2.out HIV.out hownz hgrowz (hatz.imp id (fun e => by rw [e]; simp))
                    have hnl2 : n = ((acc).set i (T, r ++ [t.id])).length := by rw [List.length_set]; exact hna.out
                    rw [HME.out] at hpg
                    have HPG := hide hpg
                    have hna2 : n = (addG T t.id acc).length := by rw [HR2.out]; exact hnl2
                    have HIX2 : Hid (∀ q, getL (al) q = (idxG q (addG T t.id acc)).map (fun i => Value.int .i64 i)) := fun q => by rw [HR2.out, idxG_set T q _ (acc) i HTI.out]; exact HIX.out q
                    have HNA2 := hide hna2
                    clear hpg hnl2 hna2 hownz hgrowz hatz hcz hfz
                    generalize wz.setCell _ _ = wq at *
                    go_wp2_with fail
                    refine ⟨⟨k + 1, al, addG T t.id acc, _, _, n, _, HL.out, by go_num, rfl, by omega, HNA2, HAC, HIX2, HALX, HPG⟩, ?_⟩
                    have := HMS.out
                    simp [intOf]; omega)
              · rw [decide_eq_false h1, if_neg (by decide), List.append_nil] at HSN
                have HAC := hide (show acc = partsG R (usedL l (l.take (k + 1))) by rw [HSN.out]; exact hacc.out)
                have h1b : ¬ t.kind = 1 := h1
                clear hu hno hacc
                go_wp2_with fail
                refine ⟨⟨k + 1, al, acc, vs, Ao, n, co, HL.out, by go_num, rfl, by omega, hna, HAC, HIX, hal, HPO⟩, ?_⟩
                have := HMS.out
                simp [intOf]; omega
          · obtain rfl : k = l.length := by omega
            rw [List.take_length] at hacc
            have hres := hpa.out.res
            rw [hacc.out] at hres
            have HRES := hide hres
            have HBB := hide (bto HWA.out (bto HN.out.below hpa.out.pt.below))
            clear hres hpa hacc hix hal hna
            go_wp2_with fail
            go_ret
            exact ⟨_, rfl, HBB.out, (fun h => by cases h), fun _ => ⟨R, HCON.out, HRES.out⟩⟩
      · obtain ⟨o, ho, hid, hsv⟩ := HN.out.wr.has x v hgx
        have hom : o ∈ l := (List.mem_filter.1 ho).1
        have hov := obB_least (mapB_obs HMB.out o hom)
        have hook := HV.out.ok o hom
        have hk2 : o.kind = 2 := by
          unfold waysO wayB at ho
          rw [List.mem_filter, Bool.and_eq_true, decide_eq_true_eq] at ho
          exact ho.2.1
        rw [hk2] at hov
        have hl2 : 2 ≤ o.refs.length := hov
        obtain ⟨Ao, co, rfl, _, hAo⟩ := hsv
        obtain ⟨go, oo, rfl, hgo, hso⟩ := hAo.resolve_left (by intro e; rw [e] at hl2; simp at hl2)
        have HPT := hide (hpt.out.step hg5 (by have := HS2.out; omega))
        have HRG := hide hrg5
        have hh0 : o.refs[0]? = some (headR o.refs) := by
          unfold headR
          cases e : o.refs with
          | nil => rw [e] at hl2; simp at hl2
          | cons a r => rfl
        have hrl := hook.2.1
        have hsz := hook.2.2.1
        have hx : o.id = x := hid
        have HLX := hide hlx
        have HML := hide (show wr.rangeLeft (s + 1) w2.heap.size = cnt from hrg.out.left_eq)
        have HLT := hide hlt5
        go_wp2_with fail
        clear hnx hen
        go_loopw [39] (fun i wr => ∃ (m : Nat) (ul : List (ByteArray × Value)) (up : ByteArray → Option ByteArray) (R : ByteArray → ByteArray) (d : ByteArray → Nat) (p : List (ByteArray × ByteArray)), m ≤ o.refs.length ∧ i = .int .i64 m ∧ Hid (PtI w1 ul wr) ∧ Hid (RangeS wr (s + 1) w2.heap.size wl (fun y => left y && !decide (y = x)) cnt') ∧ Hid (UpR ul up) ∧ Hid (SetI up R d p) ∧ Hid (∀ a b, (a, b) ∈ p ↔ (∃ o ∈ waysO l, left o.id = false ∧ a ∈ o.refs ∧ b = headR o.refs) ∨ (a ∈ o.refs.take m ∧ b = headR o.refs)) ∧ Hid (ul.length ≤ p.length ∧ p.length + (cnt' + 1) * N ≤ wl.length * N + m)) (fun i _ => o.refs.length - (intOf i).toNat)
        case atStart =>
          refine ⟨0, ul, up, R, d, p, Nat.zero_le _, rfl, HPT, HRG, hur, hst, fun a b => ?_, ⟨hln.out.1, ?_⟩⟩
          · rw [hpp.out a b]
            simp
          · have := hln.out.2
            have h9 : (cnt' + 1) * N ≤ cnt * N := Nat.mul_le_mul_right _ hlt5
            omega
        case round =>
          clear HPT HRG hpt hrg hur hst hln hrg5 hg5
          obtain ⟨m, ul, up, R, d, p, hm, rfl, hpt, hrg, hur, hst, hpq, hln⟩ := hrel
          by_cases hmlt : m < o.refs.length
          · obtain ⟨a, ha⟩ : ∃ a, o.refs[m]? = some a := ⟨_, List.getElem?_eq_getElem hmlt⟩
            have hbb := bto HN.out.below hpt.out.below
            have q0 : wr.cell? ⟨go, oo, none⟩ = some (.string (headR o.refs)) := (hso.below hgo hbb) 0 _ hh0
            have q1 : wr.cell? ⟨go, oo + m, none⟩ = some (.string a) := (hso.below hgo hbb) m _ ha
            have q2 : wr.cell? ⟨w1.heap.size + 1, 0, none⟩ = some (.map (some w1.heap.size)) := (blk1 hpt.out.sb).1
            have hsa := hsz a (List.mem_of_getElem? ha)
            have hsh := hsz (headR o.refs) (List.mem_of_getElem? hh0)
            have hwl : wl.length ≤ 100000 := Nat.le_trans HN.out.wr.len (Nat.le_trans (filter_len _ _) hl)
            have HJ := hide (join_any w1.heap.size ul up R d wr.drew hpt.out.um.drew hur.out hst.out.uf a (headR o.refs) hsa hsh (by have h1 := hln.out; have h2 := HN2.out wl.length hwl; omega))
            have hhd : headR o.refs = a ∨ ∃ y, (headR o.refs, y) ∈ p := by
              by_cases h0 : m = 0
              · subst h0
                rw [hh0] at ha
                exact .inl (Option.some.inj ha)
              · refine .inr ⟨headR o.refs, (hpq.out _ _).2 (.inr ⟨?_, rfl⟩)⟩
                have : (o.refs.take m)[0]? = some (headR o.refs) := by rw [List.getElem?_take]; rw [if_pos (by omega)]; exact hh0
                exact List.mem_of_getElem? this
            have HST2 := hide (hst.out.join a (headR o.refs) hhd)
            have HPQ2 : Hid (∀ x y, (x, y) ∈ p ++ [(a, headR o.refs)] ↔ (∃ o ∈ waysO l, left o.id = false ∧ x ∈ o.refs ∧ y = headR o.refs) ∨ (x ∈ o.refs.take (m + 1) ∧ y = headR o.refs)) := by
              intro x y
              have htk : o.refs.take (m + 1) = o.refs.take m ++ [a] := by
                rw [List.take_add_one, ha]; rfl
              rw [List.mem_append, hpq.out x y, htk, List.mem_append]
              simp only [List.mem_cons, List.not_mem_nil, or_false, Prod.mk.injEq]
              constructor
              · rintro ((h | h) | h)
                · exact .inl h
                · exact .inr ⟨.inl h.1, h.2⟩
                · exact .inr ⟨.inr h.1, h.2⟩
              · rintro (h | ⟨h1 | h1, h2⟩)
                · exact .inl (.inl h)
                · exact .inl (.inr ⟨h1, h2⟩)
                · exact .inr ⟨h1, h2⟩
            have k0 : (0 : Int) ≤ m := by omega
            have k1 : (m : Int) < o.refs.length := by omega
            have k2 : (0 : Int) < o.refs.length := by omega
            have k3 : 0 < o.refs.length := by omega
            have HL := hide hmlt
            have HM := hide (show o.refs.length - (m + 1) < o.refs.length - m from by omega)
            have HPT1 := hide hpt.out
            have HRG1 := hide hrg.out
            have HLN1 := hide hln.out
            clear ha hpt hrg hst hpq hln hhd hmlt hbb hur
            go_wp2_with fail
            go_still_tail 5, (by kernel_rfl)
            change wpList _ _ _ _ _ wr.drew
            clear q0 q1 q2
            go_wp2_with fail
            refine HJ.out.mono ?_
            rintro _ w7 ⟨⟨vv, rfl⟩, ul', hm7, hu7, hl7, hg7⟩
            have HPT7 := hide ((HPT1.out.lift (below_drew wr)).join hm7 hg7)
            have HRG7 := hide ((HRG1.out.kept (grown_none (below_drew wr)) (by simp) (by simp)).kept hg7 (fun e => by have := Option.some.inj e; omega) (fun e => by have := Option.some.inj e; have := HS2.out; omega))
            have HUR7 := hide hu7
            clear hm7 hu7 hg7 HJ
            go_wp2_with fail
            refine ⟨⟨m + 1, ul', _, _, _, _, HL.out, by go_num, HPT7, HRG7, HUR7, HST2, HPQ2, ⟨?_, ?_⟩⟩, ?_⟩
            · have := HLN1.out.1
              rw [List.length_append]; simp only [List.length_cons, List.length_nil]; omega
            · have := HLN1.out.2
              rw [List.length_append]; simp only [List.length_cons, List.length_nil]; omega
            · have := HM.out
              simp [intOf]; omega
          · obtain rfl : m = o.refs.length := by omega
            have HPP : Hid (∀ a b, (a, b) ∈ p ↔ ∃ o ∈ waysO l, (left o.id && !decide (o.id = x)) = false ∧ a ∈ o.refs ∧ b = headR o.refs) := by
              intro a b
              rw [hpq.out a b, List.take_length]
              constructor
              · rintro (⟨o', h1, h2, h3⟩ | ⟨h1, h2⟩)
                · exact ⟨o', h1, by rw [h2]; rfl, h3⟩
                · exact ⟨o, ho, by simp [hx], h1, h2⟩
              · rintro ⟨o', h1, h2, h3, h4⟩
                by_cases e : o'.id = x
                · have : o' = o := (show uniq (waysO l) from (mapB_uniq HMB.out).filter _).eq h1 ho (by rw [e, hx])
                  subst this
                  exact .inr ⟨h3, h4⟩
                · simp only [e, decide_false, Bool.not_false, Bool.and_true] at h2
                  exact .inl ⟨o', h1, h2, h3, h4⟩
            have HLN2 : Hid (ul.length ≤ p.length ∧ p.length + cnt' * N ≤ wl.length * N) := ⟨hln.out.1, by have h1 := hln.out.2; have h2 := HN1.out; rw [Nat.succ_mul] at h1; omega⟩
            have HMM := hide (show wr.rangeLeft (s + 1) w2.heap.size = cnt' from hrg.out.left_eq)
            clear hpq hln
            go_wp2_with fail
            refine ⟨⟨ul, up, R, d, p, _, cnt', hpt, hrg, hur, hst, HPP, HLN2⟩, ?_⟩
            rw [HMM.out, HML.out]
            exact HLT.out
end Go.Proofs.Ytpiocaomlifljaa
