/-
  Found at equal findings; Check of the example's two rules: walked.
-/
import Derived.Test.YtoodmhlefaepaaaGreatRulO
import Derived.Test.YtoodmhlefaepaaaGreatRulI
namespace Go.Proofs.YtoodmhlefaepaaaGreat
open Go.RowKit Go.Proofs.PlLex Go.Proofs.PlNet Go.Proofs.PlRule Go.Proofs.PlMap
attribute [local go_sem] run_makeMap

theorem eqFn (i : Nat) (s : ByteArray) (w : World) : (Op.equalIn 10000 50 (.agg #[.int .i64 (i : Int), .string s]) (.agg #[.int .i64 (i : Int), .string s])).run Tryz.prog w = .ok true w := by
  have u9 := Tryz.underlying9
  have a9 := Tryz.isAgg9
  have z9 := Tryz.sizeOf9
  have u3 := Tryz.underlying3
  have a3 := Tryz.isAgg3
  have z3 := Tryz.sizeOf3
  have hS : Tryz.prog.underlying 50 = some (.struct (Tryz.prog.fieldsOf 50)) := by kernel_rfl
  have hp : Tryz.prog.stoodInHeld 50 = false := by kernel_rfl
  rw [show (10000 : Nat) = 9999 + 1 from rfl, run_equalIn_agg w 9999 50 _ _ hS hp]
  simp only [Program.fieldsOf, Tryz.underlying50]
  go_simp
@[local go_sem] theorem guardFn (op : BinOp) (x y : Operand) (xs ys : Array Value) (w : World) : (eqGuard op 50 x y (.agg xs) (.agg ys)).run Tryz.prog w = .ok () w :=
  run_eqGuard_agg w op 50 x y xs ys (by kernel_rfl)
set_option maxRecDepth 100000 in
set_option maxHeartbeats 8000000 in
theorem found_any (L : List (Nat × BA)) (hl : L.length ≤ 1000000) (va vb : Value) (w : World) (ha : FnS w va L) (hb : FnS w vb L) :
    Calls Tryz.prog 13 #[va, vb] w fun e w' => e = .returned (.bool true) ∧ Below w.heap.size w w' := by
  obtain ⟨A, ca, rfl, hA⟩ := ha
  obtain ⟨B, cb, rfl, hB⟩ := hb
  have HA := hide hA
  have HBB := hide hB
  clear hA hB
  go_enter Tryz.func13, Tryz.ntmps13
  go_wp2_with fail
  go_loopw [5] (fun i wr => ∃ k : Nat, k ≤ L.length ∧ i = .int .i64 k ∧ Hid (Below w.heap.size w wr)) (fun i _ => L.length - (intOf i).toNat)
  case atStart => exact ⟨0, Nat.zero_le _, rfl, Below.refl _ _⟩
  case round =>
    obtain ⟨k, hk, rfl, hbw⟩ := hrel
    have HBW := hide hbw.out
    by_cases hlt : k < L.length
    · obtain ⟨ga, rfl, hga, hpa⟩ := HA.out.resolve_left (by intro e; rw [e] at hlt; simp at hlt)
      obtain ⟨gb, rfl, hgb, hpb⟩ := HBB.out.resolve_left (by intro e; rw [e] at hlt; simp at hlt)
      have hka := List.getElem?_eq_getElem hlt
      generalize L[k] = x at *
      obtain ⟨i, s⟩ := x
      have X0 : ∀ u : Glw wr, u.w.cell? ⟨ga, k * 2, none⟩ = some (.int .i64 (i : Int)) := fun u => ((tr_below HBW.out u.2).cell (p := ⟨ga, _, none⟩) hga).trans (hpa k _ hka).1
      have X1 : ∀ u : Glw wr, u.w.cell? ⟨ga, k * 2 + 1, none⟩ = some (.string s) := fun u => ((tr_below HBW.out u.2).cell (p := ⟨ga, _, none⟩) hga).trans (hpa k _ hka).2
      have Y0 : ∀ u : Glw wr, u.w.cell? ⟨gb, k * 2, none⟩ = some (.int .i64 (i : Int)) := fun u => ((tr_below HBW.out u.2).cell (p := ⟨gb, _, none⟩) hgb).trans (hpb k _ hka).1
      have Y1 : ∀ u : Glw wr, u.w.cell? ⟨gb, k * 2 + 1, none⟩ = some (.string s) := fun u => ((tr_below HBW.out u.2).cell (p := ⟨gb, _, none⟩) hgb).trans (hpb k _ hka).2
      have YN : Nonempty (Glw wr) := ⟨⟨_, Below.refl _ _⟩⟩
      have hE := fun w => eqFn i s w
      have k0 : (0 : Int) ≤ k := by omega
      have k1 : (k : Int) < L.length := by omega
      have HKL := hide hlt
      have HMS := hide (show L.length - (k + 1) < L.length - k from by omega)
      clear hlt hka hpa hpb hbw
      go_wp2_with fail
      refine wp_region_quietW (J := Glw wr) Glw.w ⟨_, drewB wr⟩ rfl (by kernel_rfl) (by kernel_rfl) ?_
      repeat (go_big_quiet_step (fail))
      refine wpQuiet_nil ?_
      rintro w9 ⟨u, rfl⟩
      have HB9 := hide (tr_below HBW.out u.2)
      clear X0 X1 Y0 Y1 hE
      go_wp2_with fail
      refine ⟨⟨k + 1, HKL.out, by go_num, HB9⟩, ?_⟩
      have := HMS.out
      simp [intOf]; omega
    · obtain rfl : k = L.length := by omega
      have k1 : ¬ (L.length : Int) < L.length := by omega
      clear hlt hbw
      go_wp2_with fail
      go_ret
      exact ⟨rfl, HBW.out⟩
theorem findK_rule (ol : List Ob) (k : Nat) : ∀ x ∈ findK ol k, x.1 < k := by
  induction k with
  | zero => intro x hx; cases hx
  | succ k ih =>
    intro x hx
    rw [findK, List.mem_append] at hx
    rcases hx with hx | hx
    · have := ih x hx; omega
    · unfold findR at hx
      obtain ⟨o, _, rfl⟩ := List.mem_map.1 hx
      show k < k + 1
      omega
theorem rAB_strict {i : Nat} {x : Rl} (h : rAB[i]? = some x) : x.strict = false := by
  have := List.mem_of_getElem? h
  rcases List.mem_cons.1 this with rfl | h
  · rfl
  · rw [List.mem_singleton] at h
    subst h
    rfl
set_option maxRecDepth 100000 in
set_option maxHeartbeats 8000000 in
theorem pcheck_any (ol : List Ob) (hk : ∀ o ∈ ol, o.kind = 1) (hn : ol.length ≤ 100000) (hok : ∀ o ∈ ol, okO o) (hm : mapB ol = true) (vm vl : Value) (w : World) (hmv : ObsS w vm ol) (hlv : RlS w vl rAB) :
    Calls Tryz.prog 15 #[.agg #[vm], vl] w fun e w' => e = .returned (.slice none 0 0) ∧ Below w.heap.size w w' := by
  have HFD := hide (fun W (b : Below w.heap.size w W) => findings_any ol hk hn hok hm vm vl W (hmv.below b) (hlv.below b))
  have HOK := hide hok
  obtain ⟨Am, cm, rfl, _, hAm⟩ := id hmv
  obtain ⟨Al, cl, rfl, _, hAl⟩ := id hlv
  have HAM := hide hAm
  have HAL := hide hAl
  obtain ⟨w0, hw0⟩ : ∃ w0, w.alloc (.cells #[.slice Am ol.length cm] 45) = w0 := ⟨_, rfl⟩
  have hb0 : Below w.heap.size w w0 := by rw [← hw0]; exact (Below.refl _ _).alloc (Nat.le_refl _) _
  have hm0 : w0.heap[w.heap.size]? = some (.cells #[.slice Am ol.length cm] 45 (0, 0)) := by rw [← hw0]; exact heap_alloc_new _ _
  obtain ⟨w1, hw1⟩ : ∃ w1, w0.alloc (.map #[] 0) = w1 := ⟨_, rfl⟩
  have hb1 : Below w0.heap.size w0 w1 := by rw [← hw1]; exact (Below.refl _ _).alloc (Nat.le_refl _) _
  have hmp : MapS w1 w0.heap.size [] := by rw [← hw1]; exact mapL_made _ _
  obtain ⟨bm, hbm⟩ : ∃ bm, w.heap.size = bm := ⟨_, rfl⟩
  obtain ⟨bd, hbd⟩ : ∃ bd, w0.heap.size = bd := ⟨_, rfl⟩
  have HB1 := hide (bto hb0 hb1)
  have HM1 := hide (blkB hb1 hm0)
  rw [hbm] at HM1
  rw [hbd] at hmp
  have HMP := hide hmp
  have c1 := cell_of_row w1 bm 0 _ _ _ HM1.out
  simp only [List.getElem?_toArray, List.getElem?_cons_zero] at c1
  have HBM := hide hbm
  clear hk hok hm hmv hlv hAm hAl hb0 hm0 hb1 hmp
  go_enter Tryz.func15, Tryz.ntmps15
  go_wp2_with fail
  refine (HFD.out w1 HB1.out).mono ?_
  rintro _ w2 ⟨vf, rfl, hf, b2⟩
  have HB2 := hide (bto HB1.out b2)
  have HM2 := hide (blkB b2 HM1.out)
  have HMP2 : Hid (MapS w2 bd []) := hide (HMP.out.kept (below_grown b2 none) (by simp))
  have hfr := findK_rule ol 2
  have hfl := findK_len ol 2
  generalize findK ol 2 = L at *
  obtain ⟨Af, cf, rfl, hAf⟩ := hf
  have HAF := hide hAf
  have HFR := hide hfr
  clear c1 b2 hw0 hw1 hbm hbd HFD hAf hfr HB1 HM1 HMP
  go_wp2_with fail
  go_loopw [16] (fun i wr => ∃ k : Nat, k ≤ L.length ∧ i = .int .i64 k ∧ Hid (Below w2.heap.size w2 wr)) (fun i _ => L.length - (intOf i).toNat)
  case atStart => exact ⟨0, Nat.zero_le _, rfl, Below.refl _ _⟩
  case round =>
    obtain ⟨k, hk, rfl, hbw⟩ := hrel
    have HBW := hide hbw.out
    have HBA := hide (bto HB2.out HBW.out)
    by_cases hlt : k < L.length
    · obtain ⟨gf, rfl, hgf, hpf⟩ := HAF.out.resolve_left (by intro e; rw [e] at hlt; simp at hlt)
      have hka := List.getElem?_eq_getElem hlt
      have hri := HFR.out _ (List.getElem_mem hlt)
      generalize L[k] = x at *
      obtain ⟨i, s⟩ := x
      obtain ⟨g, o, rfl, hg, hp⟩ := HAL.out.resolve_left (by decide)
      obtain ⟨y, hky⟩ : ∃ y, rAB[i]? = some y := ⟨_, List.getElem?_eq_getElem (show i < rAB.length from hri)⟩
      obtain ⟨v1, hat⟩ := hp i y hky
      have s0 := (hat.below hg HBA.out).c0
      rw [rAB_strict hky] at s0
      have f0 := (HBW.out.cell (p := ⟨gf, _, none⟩) hgf).trans (hpf k _ hka).1
      have f1 := (HBW.out.cell (p := ⟨gf, _, none⟩) hgf).trans (hpf k _ hka).2
      obtain ⟨wx, hwx⟩ : ∃ wx, wr.alloc (.cells #[.int .i64 (i : Int), .string s] 50) = wx := ⟨_, rfl⟩
      have hbx : Below wr.heap.size wr wx := by rw [← hwx]; exact (Below.refl _ _).alloc (Nat.le_refl _) _
      have hnx : wx.heap[wr.heap.size]? = some (.cells #[.int .i64 (i : Int), .string s] 50 (0, 0)) := by rw [← hwx]; exact heap_alloc_new _ _
      have n0 := cell_of_row wx wr.heap.size 0 _ _ _ hnx
      simp only [List.getElem?_toArray, List.getElem?_cons_zero] at n0
      have t0 : wx.cell? ⟨g, o + i * 8, none⟩ = some (.bool false) := (hbx.cell (p := ⟨g, _, none⟩) (Nat.lt_of_lt_of_le hg HBA.out.size)).trans s0
      have HBX := hide (bto HBW.out hbx)
      have k0 : (0 : Int) ≤ k := by omega
      have k1 : (k : Int) < L.length := by omega
      have i0 : (0 : Int) ≤ i := by omega
      have i1 : (i : Int) < (rAB.length : Nat) := by have : rAB.length = 2 := rfl; omega
      have HKL := hide hlt
      have HMS := hide (show L.length - (k + 1) < L.length - k from by omega)
      clear hlt hka hky hat hpf hp hbw hbx hnx hri
      go_wp2_with fail
      refine ⟨⟨k + 1, HKL.out, by go_num, HBX⟩, ?_⟩
      have := HMS.out
      simp [intOf]; omega
    · obtain rfl : k = L.length := by omega
      have k1 : ¬ (L.length : Int) < L.length := by omega
      have HM3 := hide (blkB HBW.out HM2.out)
      have m3 := cell_of_row wr bm 0 _ _ _ HM3.out
      simp only [List.getElem?_toArray, List.getElem?_cons_zero] at m3
      have HMP3 : Hid (MapS wr bd []) := hide (HMP2.out.kept (below_grown HBW.out none) (by simp))
      clear hlt hbw HBW HB2 HMP2 HM2
      obtain ⟨w3, rfl⟩ : ∃ w3, w3 = wr := ⟨_, rfl⟩
      go_wp2_with fail
      go_loopw [8, 33] (fun s i wq => ∃ k : Nat, k ≤ ol.length ∧ i = .int .i64 k ∧ s = .slice none 0 0 ∧ Hid (Below w3.heap.size w3 wq)) (fun _ i _ => ol.length - (intOf i).toNat)
      case atStart => exact ⟨0, Nat.zero_le _, rfl, rfl, Below.refl _ _⟩
      case round =>
        obtain ⟨j, hj, rfl, rfl, hbw⟩ := hrel
        have HBW := hide hbw.out
        have HBJ := hide (bto HBA.out HBW.out)
        by_cases hlt : j < ol.length
        · obtain ⟨g2, o2, rfl, hg2, hp2⟩ := HAM.out.resolve_left (by rintro e; rw [e] at hlt; simp at hlt)
          obtain ⟨ob, hob⟩ : ∃ ob, ol[j]? = some ob := ⟨_, List.getElem?_eq_getElem hlt⟩
          have hom := List.mem_of_getElem? hob
          obtain ⟨rv, tv, hoa⟩ := hp2 j ob hob
          obtain ⟨Ar, cr, rfl, _, _⟩ := id hoa.refs
          obtain ⟨At, ct, rfl, _⟩ := id hoa.tags
          obtain ⟨d0, d1, d2, d3, d4, d5, _, _⟩ := hoa.below hg2 HBJ.out
          obtain ⟨wo, hwo⟩ : ∃ wo, wr.alloc (.cells #[.string ob.id, .int .i64 ob.kind, .int .i64 ob.x, .int .i64 ob.y, .slice Ar ob.refs.length cr, .slice At ob.tags.length ct] 42) = wo := ⟨_, rfl⟩
          have hb6 : Below wr.heap.size wr wo := by rw [← hwo]; exact (Below.refl _ _).alloc (Nat.le_refl _) _
          have ho6 : wo.heap[wr.heap.size]? = some (.cells #[.string ob.id, .int .i64 ob.kind, .int .i64 ob.x, .int .i64 ob.y, .slice Ar ob.refs.length cr, .slice At ob.tags.length ct] 42 (0, 0)) := by rw [← hwo]; exact heap_alloc_new _ _
          have e0 := cell_of_row wo wr.heap.size 0 _ _ _ ho6
          simp only [List.getElem?_toArray, List.getElem?_cons_zero] at e0
          have hmw : MapS wo bd [] := (HMP3.out.kept (below_grown HBW.out none) (by simp)).kept (below_grown hb6 none) (by simp)
          have hlook := hmw.look Tryz.underlying81 zero_bool (x := ob.id) (Nat.le_trans (HOK.out ob hom).1 (by unfold maxLen; omega))
          change (Instr.lookup 81 (.map (some bd)) (.string ob.id) false).run Tryz.prog wo = .ok (.bool false) wo at hlook
          have HBX := hide (bto HBW.out hb6)
          have j0 : (0 : Int) ≤ j := by omega
          have j1 : (j : Int) < (ol.length : Nat) := by omega
          have HJL := hide hlt
          have HJS := hide (show ol.length - (j + 1) < ol.length - j from by omega)
          clear hlt hob hom hoa hb6 ho6 hp2 hbw hmw
          go_wp2_with fail
          refine ⟨⟨j + 1, HJL.out, by go_num, rfl, HBX⟩, ?_⟩
          have := HJS.out
          simp [intOf]; omega
        · obtain rfl : j = ol.length := by omega
          have k1 : ¬ (ol.length : Int) < ol.length := by omega
          clear hlt hbw
          go_wp2_with fail
          go_ret
          exact ⟨rfl, HBJ.out⟩
end Go.Proofs.YtoodmhlefaepaaaGreat
