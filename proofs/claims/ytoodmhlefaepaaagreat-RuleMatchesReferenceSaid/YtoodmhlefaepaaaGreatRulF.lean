/-
  When rules are valid, walked.
-/
import Derived.Test.YtoodmhlefaepaaaGreatRulC
import Derived.Test.YtoodmhlefaepaaaGreatLexP
import Derived.Test.YtoodmhlefaepaaaGreatNetF
import Derived.Deep.DeepCutAuto
import Derived.Deep.CutBlock
namespace Go.Proofs.YtoodmhlefaepaaaGreat
open Go.RowKit Go.Proofs.PlLex Go.Proofs.PlRule

/-- Are two tags equal, by their cells? -/
def tagEq (a b c d : ByteArray) : Bool := a.toList == c.toList && b.toList == d.toList
@[local go_sem ↓] theorem eqTag (a b c d : ByteArray) (w : World) :
    (Op.equalIn 10000 34 (.agg #[.string a, .string b]) (.agg #[.string c, .string d])).run Tryz.prog w = .ok (tagEq a b c d) w := by
  have u9 := Tryz.underlying9
  have a9 := Tryz.isAgg9
  have z9 := Tryz.sizeOf9
  have hS : Tryz.prog.underlying 34 = some (.struct (Tryz.prog.fieldsOf 34)) := by kernel_rfl
  have hp : Tryz.prog.stoodInHeld 34 = false := by kernel_rfl
  rw [show (10000 : Nat) = 9999 + 1 from rfl, run_equalIn_agg w 9999 34 _ _ hS hp]
  simp only [Program.fieldsOf, Tryz.underlying34]
  go_simp
  unfold tagEq
  by_cases h1 : a.toList = c.toList <;> by_cases h2 : b.toList = d.toList <;> simp [h1, h2]
@[local go_sem] theorem guardTag (op : BinOp) (x y : Operand) (xs ys : Array Value) (w : World) : (eqGuard op 34 x y (.agg xs) (.agg ys)).run Tryz.prog w = .ok () w :=
  run_eqGuard_agg w op 34 x y xs ys (by kernel_rfl)
theorem empty_of {s : ByteArray} (h : s.size = 0) : s = ⟨#[]⟩ := by
  cases s with
  | mk d =>
    have : d = #[] := Array.eq_empty_of_size_eq_zero h
    rw [this]
theorem full_of {s : ByteArray} (h : ¬ s.size = 0) : ¬ s.toList = [] := fun e => by
  have := PlNet.toList_inj.1 (show s.toList = (⟨#[]⟩ : ByteArray).toList by rw [e]; simp)
  subst this
  exact h rfl
theorem full_emp {s : ByteArray} (h : ¬ s.size = 0) : s.toList.isEmpty = false := by
  cases e : s.toList with
  | nil => exact absurd e (full_of h)
  | cons _ _ => rfl
structure RlB (x : Rl) (vv : Value) (b : Nat) (W : World) : Prop where
  blk : W.heap[b]? = some (.cells #[.bool x.strict, .string x.area, .int .i64 x.kind, .string x.ik, .string x.iv, .int .i64 x.op, .string x.key, vv] 37 (0, 0))
/-- The strings of a rule are not too long. -/
structure RlZ (x : Rl) : Prop where
  area : x.area.size ≤ maxLen
  ik : x.ik.size ≤ maxLen
  iv : x.iv.size ≤ maxLen
  key : x.key.size ≤ maxLen
  vals : ∀ s ∈ x.vals, s.size ≤ 1000000
  many : x.vals.length ≤ 1000000
set_option maxRecDepth 100000 in
set_option maxHeartbeats 4000000 in
theorem vnot_any (s : ByteArray) (w : World) (hs : s.size ≤ 1000000) : Calls Tryz.prog 57 #[.string s] w fun e w' => e = .returned (.bool (!valueB s)) ∧ w' = w := by
  have HI := hide (isval_any s w (by unfold maxLen; omega))
  clear hs
  go_enter Tryz.func57, Tryz.ntmps57
  go_wp2_with fail
  refine HI.out.mono ?_
  rintro _ w2 ⟨rfl, rfl⟩
  go_wp2_with fail
  go_ret
  exact ⟨rfl, rfl⟩
theorem ret_i {a b : Int} (h : a = b) : Ending.returned (.int .i64 a) = .returned (.int .i64 b) := by rw [h]
def idxB : List BA → Nat → Int
  | [], _ => -1
  | s :: l, k => if valueB s then idxB l (k + 1) else k
theorem idxB_all (l : List BA) (k : Nat) : (idxB l k = -1 ↔ l.all valueB = true) ∧ (idxB l k = -1 ∨ 0 ≤ idxB l k) := by
  induction l generalizing k with
  | nil => exact ⟨⟨fun _ => rfl, fun _ => rfl⟩, .inl rfl⟩
  | cons s l ih =>
    unfold idxB
    cases h : valueB s with
    | true =>
      obtain ⟨h1, h2⟩ := ih (k + 1)
      rw [if_pos rfl]
      exact ⟨by rw [h1, List.all_cons, h, Bool.true_and], h2⟩
    | false =>
      rw [if_neg (by decide)]
      exact ⟨⟨fun e => by omega, fun e => by rw [List.all_cons, h] at e; cases e⟩, .inr (by omega)⟩
set_option maxRecDepth 100000 in
set_option maxHeartbeats 4000000 in
theorem idxv_any (l : List BA) (v : Value) (w : World) (hv : StS w v l) (hl : l.length ≤ 1000000) (hs : ∀ s ∈ l, s.size ≤ 1000000) :
    Calls Tryz.prog 43 #[v, .func (Fn.func 57) #[] #[]] w fun e w' => e = .returned (.int .i64 (idxB l 0)) ∧ w' = w := by
  obtain ⟨A, c, rfl, _, hA⟩ := hv
  have HA := hide hA
  have HS := hide hs
  clear hs hA
  go_enter Tryz.func43, Tryz.ntmps43
  go_wp2_with fail
  go_loop [8] (fun i => ∃ k : Nat, k ≤ l.length ∧ i = .int .i64 k ∧ Hid (idxB l 0 = idxB (l.drop k) k)) (fun i => l.length - (intOf i).toNat)
  case atStart => exact ⟨0, Nat.zero_le _, rfl, hide rfl⟩
  case round =>
    obtain ⟨k, hk, rfl, hx⟩ := hrel
    by_cases hlt : k < l.length
    · obtain ⟨g, o, rfl, hg, hp⟩ := HA.out.resolve_left (by rintro rfl; simp at hlt)
      have hks := List.getElem?_eq_getElem hlt
      have hdr := List.drop_eq_getElem_cons hlt
      generalize l[k] = s at *
      have c0 := hp k s hks
      have HX := hide hx.out
      rw [hdr] at HX
      have HW := hide (vnot_any s w (HS.out s (List.mem_of_getElem? hks)))
      have k0 : (0 : Int) ≤ k := by omega
      have k1 : (k : Int) < l.length := by omega
      have HKL := hide hlt
      have HMS := hide (show l.length - (k + 1) < l.length - k from by omega)
      clear hlt hks hdr hx hp
      cases hvs : valueB s with
      | true =>
        have HX2 : Hid (idxB l 0 = idxB (l.drop (k + 1)) (k + 1)) := by
          rw [HX.out, idxB, if_pos hvs]
          exact hide rfl
        rw [hvs] at HW
        clear hvs
        go_wp2_with fail
        refine HW.out.mono ?_
        rintro _ w2 ⟨rfl, rfl⟩
        go_wp2_with fail
        refine ⟨⟨k + 1, HKL.out, by go_num, HX2⟩, ?_⟩
        have := HMS.out
        simp [intOf]; omega
      | false =>
        have HX2 : Hid (idxB l 0 = (k : Int)) := by
          rw [HX.out, idxB, if_neg (by rw [hvs]; decide)]
          exact hide rfl
        rw [hvs] at HW
        clear hvs
        go_wp2_with fail
        refine HW.out.mono ?_
        rintro _ w2 ⟨rfl, rfl⟩
        go_wp2_with fail
        go_ret
        exact ⟨ret_i HX2.out.symm, rfl⟩
    · obtain rfl : k = l.length := by omega
      have HX2 : Hid (idxB l 0 = -1) := by
        rw [hx.out, List.drop_length]
        exact hide rfl
      have k1 : ¬ (l.length : Int) < l.length := by omega
      clear hx hlt
      go_wp2_with fail
      go_ret
      exact ⟨ret_i HX2.out.symm, rfl⟩
set_option maxRecDepth 100000 in
set_option maxHeartbeats 4000000 in
theorem conv_any (l : List BA) (v : Value) (w : World) (hv : StS w v l) (hl : l.length ≤ 1000000) (hs : ∀ s ∈ l, s.size ≤ 1000000) :
    Calls Tryz.prog 56 #[v, .func (Fn.func 57) #[] #[]] w fun e w' => e = .returned (.bool (!l.all valueB)) ∧ w' = w := by
  have HX := hide (idxv_any l v w hv hl hs)
  obtain ⟨h1, h2⟩ := idxB_all l 0
  generalize idxB l 0 = i at *
  obtain ⟨A, c, rfl, _, _⟩ := hv
  cases h : l.all valueB with
  | true =>
    have h3 : i = -1 := h1.2 h
    subst h3
    clear h1 h2 hs
    go_enter Tryz.func56, Tryz.ntmps56
    go_wp2_with fail
    refine HX.out.mono ?_
    rintro _ w2 ⟨rfl, rfl⟩
    go_wp2_with fail
    go_ret
    exact ⟨rfl, rfl⟩
  | false =>
    have h3 : 0 ≤ i := by
      rcases h2 with h2 | h2
      · have := h1.1 h2
        rw [h] at this; cases this
      · exact h2
    clear h1 h2 hs
    go_enter Tryz.func56, Tryz.ntmps56
    go_wp2_with fail
    refine HX.out.mono ?_
    rintro _ w2 ⟨rfl, rfl⟩
    go_wp2_with fail
    go_ret
    exact ⟨rfl, rfl⟩
def vb (b : Bool) : Value := .bool b
theorem RlB.c {x : Rl} {vv : Value} {b : Nat} {W : World} (h : RlB x vv b W) : W.cell? ⟨b, 0, none⟩ = some (.bool x.strict) ∧ W.cell? ⟨b, 1, none⟩ = some (.string x.area) ∧ W.cell? ⟨b, 2, none⟩ = some (.int .i64 x.kind) ∧ W.cell? ⟨b, 3, none⟩ = some (.string x.ik) ∧ W.cell? ⟨b, 4, none⟩ = some (.string x.iv) ∧ W.cell? ⟨b, 5, none⟩ = some (.int .i64 x.op) ∧ W.cell? ⟨b, 6, none⟩ = some (.string x.key) ∧ W.cell? ⟨b, 7, none⟩ = some vv := blk8 h.blk
theorem RlB.lift {x : Rl} {vv : Value} {b : Nat} {W W' : World} (h : RlB x vv b W) (hb : Below W.heap.size W W') : RlB x vv b W' := ⟨(hb.block b (lt_of_blk h.blk)).trans h.blk⟩
theorem tr_below {a b c : World} (h : Below a.heap.size a b) (k : Below b.heap.size b c) : Below a.heap.size a c := h.trans (k.mono h.size)
set_option maxRecDepth 100000 in
set_option maxHeartbeats 8000000 in
theorem valid_any (x : Rl) (vv : Value) (w : World) (hv : StS w vv x.vals) (hz : RlZ x) :
    Calls Tryz.prog 30 #[vRl x vv] w fun e w' => e = .returned (.bool (validR x)) ∧ Below w.heap.size w w' := by
  obtain ⟨V, hV⟩ : ∃ V, validR x = V := ⟨_, rfl⟩
  rw [hV]
  unfold validR at hV
  have HV := hide hV
  have HZ := hide hz
  have hlen : x.vals.length ≤ 1000000 := hz.many
  obtain ⟨A, c, rfl, hcl, _⟩ := id hv
  obtain ⟨wo, hwo⟩ : ∃ wo, w.alloc (.cells #[.bool x.strict, .string x.area, .int .i64 x.kind, .string x.ik, .string x.iv, .int .i64 x.op, .string x.key, .slice A x.vals.length c] 37) = wo := ⟨_, rfl⟩
  have hb0 : Below w.heap.size w wo := by rw [← hwo]; exact (Below.refl _ _).alloc (Nat.le_refl _) _
  have hr0 : RlB x (.slice A x.vals.length c) w.heap.size wo := ⟨by rw [← hwo]; exact heap_alloc_new _ _⟩
  have HB0 := hide hb0
  have HR0 := hide hr0
  have HSS := hide (fun W (h : Below w.heap.size w W) => hv.below h)
  obtain ⟨c0, c1, c2, c3, c4, c5, c6, c7⟩ := hr0.c
  have HNA := hide (fun W => pname_any x.area W hz.area)
  have HNK := hide (fun W => pname_any x.key W hz.key)
  have HNI := hide (fun W => pname_any x.ik W hz.ik)
  have HNV := hide (fun W => isval_any x.iv W hz.iv)
  clear hV hb0 hr0 hv hz hcl
  unfold vRl
  go_enter Tryz.func30, Tryz.ntmps30
  go_upto_region 2 with (fail)
  clear hwo
  go_cut [7] (fun s7 wx => s7 = .bool (!areaOk x.area) ∧ Hid (Below wo.heap.size wo wx))
  case first =>
    by_cases h0 : x.area.size = 0
    · have e := empty_of h0
      have HA : Hid (areaOk x.area = true) := by unfold areaOk; rw [decide_eq_true h0]; exact hide rfl
      rw [e] at c1
      clear h0 e
      go_wp2_with fail
      go_meet
      exact ⟨by rw [HA.out]; rfl, Below.refl _ _⟩
    · have e1 := full_of h0
      have e2 := full_emp h0
      obtain ⟨q, hq⟩ : ∃ q, nameB x.area = q := ⟨_, rfl⟩
      have HA : Hid (areaOk x.area = q) := by unfold areaOk; rw [decide_eq_false h0, hq]; exact hide rfl
      have hn := HNA.out wo
      rw [show name x.area.data.toList = q from hq] at hn
      have HN := hide hn
      clear h0 hq hn
      go_wp2_with fail
      refine HN.out.mono ?_
      rintro _ w2 ⟨rfl, b2⟩
      have HB2 := hide b2
      clear b2
      go_wp2_with fail
      go_meet
      exact ⟨by rw [HA.out], HB2⟩
  case rest =>
    obtain ⟨rfl, hbw⟩ := hcut
    have HBW := hide hbw.out
    clear c0 c1 c2 c3 c4 c5 c6 c7 hbw HNA
    obtain ⟨c0, c1, c2, c3, c4, c5, c6, c7⟩ := (HR0.out.lift HBW.out).c
    cases hA : areaOk x.area with
    | false =>
      have HVF : Hid (V = false) := hide (by rw [← HV.out]; simp [hA])
      clear hA
      go_wp2_with fail
      go_ret
      exact ⟨ret_b HVF.out.symm, tr_below HB0.out HBW.out⟩
    | true =>
      have hv1 := HV.out
      rw [hA, Bool.true_and] at hv1
      have HV1 := hide hv1
      clear hv1 hA HV
      by_cases hk0 : x.kind < 0
      · have HVF : Hid (V = false) := hide (by rw [← HV1.out, decide_eq_false (by omega)]; rfl)
        go_wp2_with fail
        go_ret
        exact ⟨ret_b HVF.out.symm, tr_below HB0.out HBW.out⟩
      · by_cases hk5 : 5 < x.kind
        · have HVF : Hid (V = false) := hide (by rw [← HV1.out, decide_eq_true (by omega), decide_eq_false (by omega)]; rfl)
          go_wp2_with fail
          go_ret
          exact ⟨ret_b HVF.out.symm, tr_below HB0.out HBW.out⟩
        · have hv2 := HV1.out
          rw [decide_eq_true (by omega), decide_eq_true (by omega), Bool.true_and, Bool.true_and] at hv2
          have HV2 := hide hv2
          obtain ⟨q, hq⟩ : ∃ q, nameB x.key = q := ⟨_, rfl⟩
          rw [hq] at HV2
          have hn := HNK.out wc
          rw [show name x.key.data.toList = q from hq] at hn
          have HN := hide hn
          clear hv2 HV1 hq hn HNK
          cases q with
          | false =>
            have HVF : Hid (V = false) := hide (by rw [← HV2.out]; rfl)
            go_wp2_with fail
            refine HN.out.mono ?_
            rintro _ w2 ⟨rfl, b2⟩
            have HB2 := hide (tr_below (tr_below HB0.out HBW.out) b2)
            clear b2
            go_wp2_with fail
            go_ret
            exact ⟨ret_b HVF.out.symm, HB2.out⟩
          | true =>
            go_upto_region 7 with ((go_at_call 54; (with_reducible refine HN.out.mono ?_); rintro _ w2 ⟨rfl, b2⟩; have HB2 := hide (tr_below HBW.out b2); clear b2; clear c0 c1 c2 c3 c4 c5 c6 c7; have hrl := (HR0.out.lift HB2.out).c; obtain ⟨c0, c1, c2, c3, c4, c5, c6, c7⟩ := hrl))
            go_cut [27] (fun s27 wx => s27 = .bool (!ifOk x.ik x.iv) ∧ Hid (Below wo.heap.size wo wx))
            case first =>
              by_cases h0 : x.ik.size = 0 ∧ x.iv.size = 0
              · have e1 := empty_of h0.1
                have e2 := empty_of h0.2
                have HA : Hid (ifOk x.ik x.iv = true) := by unfold ifOk; rw [decide_eq_true h0.1, decide_eq_true h0.2]; exact hide rfl
                have ht : tagEq ⟨#[]⟩ ⟨#[]⟩ ⟨#[]⟩ ⟨#[]⟩ = true := by simp [tagEq]
                rw [e1] at c3
                rw [e2] at c4
                clear h0 e1 e2
                go_wp2_with fail
                go_meet
                exact ⟨by rw [HA.out]; rfl, HB2⟩
              · have ht : tagEq x.ik x.iv ⟨#[]⟩ ⟨#[]⟩ = false := by
                  unfold tagEq
                  rw [Bool.and_eq_false_iff]
                  by_cases h1 : x.ik.size = 0
                  · have h2 : ¬ x.iv.size = 0 := fun h => h0 ⟨h1, h⟩
                    exact .inr (beq_eq_false_iff_ne.2 (by simpa using full_of h2))
                  · exact .inl (beq_eq_false_iff_ne.2 (by simpa using full_of h1))
                have hi0 : ifOk x.ik x.iv = (nameB x.ik && valueB x.iv) := by
                  unfold ifOk
                  rw [← Bool.decide_and, decide_eq_false h0, Bool.false_or]
                obtain ⟨q, hq⟩ : ∃ q, nameB x.ik = q := ⟨_, rfl⟩
                rw [hq] at hi0
                have hn := HNI.out w2
                rw [show name x.ik.data.toList = q from hq] at hn
                have HN2 := hide hn
                clear h0 hq hn
                cases q with
                | false =>
                  have HA := hide hi0
                  clear hi0
                  go_wp2_with fail
                  refine HN2.out.mono ?_
                  rintro _ w3 ⟨rfl, b3⟩
                  have HB3 := hide (tr_below HB2.out b3)
                  clear b3
                  go_wp2_with fail
                  go_meet
                  exact ⟨by rw [HA.out]; rfl, HB3⟩
                | true =>
                  have HA : Hid (ifOk x.ik x.iv = valueB x.iv) := hide (by rw [hi0, Bool.true_and])
                  clear hi0
                  go_wp2_with fail
                  refine HN2.out.mono ?_
                  rintro _ w3 ⟨rfl, b3⟩
                  have HB3 := hide (tr_below HB2.out b3)
                  clear b3 c0 c1 c2 c3 c4 c5 c6 c7
                  obtain ⟨c0, c1, c2, c3, c4, c5, c6, c7⟩ := (HR0.out.lift HB3.out).c
                  go_wp2_with fail
                  refine (HNV.out _).mono ?_
                  rintro _ w4 ⟨rfl, rfl⟩
                  go_wp2_with fail
                  go_meet
                  exact ⟨by rw [HA.out], HB3⟩
            case rest =>
              obtain ⟨rfl, hbw⟩ := hcut
              have HB4 := hide hbw.out
              clear c0 c1 c2 c3 c4 c5 c6 c7 hbw HB2 HN HNI HNV HBW
              obtain ⟨c0, c1, c2, c3, c4, c5, c6, c7⟩ := (HR0.out.lift HB4.out).c
              have hv3 := HV2.out
              rw [Bool.true_and] at hv3
              cases hI : ifOk x.ik x.iv with
              | false =>
                have HVF : Hid (V = false) := hide (by rw [← hv3, hI]; rfl)
                clear hI hv3 HV2
                go_wp2_with fail
                go_ret
                exact ⟨ret_b HVF.out.symm, tr_below HB0.out HB4.out⟩
              | true =>
                rw [hI, Bool.true_and] at hv3
                have HV3 := hide hv3
                have HCV := hide (conv_any x.vals _ wc (HSS.out _ (tr_below HB0.out HB4.out)) hlen HZ.out.vals)
                clear hI hv3 HV2
                unfold opOk at HV3
                by_cases ho : x.op = 2
                · rw [ho] at c5
                  rw [if_pos ho] at HV3
                  by_cases hn0 : x.vals.length = 0
                  · have HVF : Hid (V = false) := hide (by rw [← HV3.out, decide_eq_false (by omega)]; rfl)
                    have n2 : ¬ (0 : Int) < (x.vals.length : Nat) := by omega
                    have hd : decide (0 < x.vals.length) = false := decide_eq_false (by omega)
                    clear hn0
                    go_wp2_with fail
                    go_ret
                    exact ⟨ret_b HVF.out.symm, tr_below HB0.out HB4.out⟩
                  · have n2 : (0 : Int) < (x.vals.length : Nat) := by omega
                    have hd : decide (0 < x.vals.length) = true := decide_eq_true (by omega)
                    by_cases hn6 : 60 < x.vals.length
                    · have HVF : Hid (V = false) := hide (by rw [← HV3.out, decide_eq_false (show ¬ x.vals.length ≤ 60 by omega), Bool.and_false]; rfl)
                      have n3 : (60 : Int) < (x.vals.length : Nat) := by omega
                      go_wp2_with fail
                      go_ret
                      exact ⟨ret_b HVF.out.symm, tr_below HB0.out HB4.out⟩
                    · have HVT : Hid (V = x.vals.all valueB) := hide (by rw [← HV3.out, decide_eq_true (show 1 ≤ x.vals.length by omega), decide_eq_true (show x.vals.length ≤ 60 by omega)]; rfl)
                      have n3 : ¬ (60 : Int) < (x.vals.length : Nat) := by omega
                      go_wp2_with fail
                      refine HCV.out.mono ?_
                      rintro _ w4 ⟨rfl, rfl⟩
                      go_wp2_with fail
                      go_ret
                      exact ⟨ret_b (by first | rw [HVT.out] | (rw [HVT.out]; simp)), tr_below HB0.out HB4.out⟩
                · have o1 : (x.op == 2) = false := beq_eq_false_iff_ne.2 ho
                  rw [if_neg ho] at HV3
                  by_cases hn0 : x.vals.length = 0
                  · have n2 : ¬ (0 : Int) < (x.vals.length : Nat) := by omega
                    have n3 : ¬ (60 : Int) < (x.vals.length : Nat) := by omega
                    have hd : decide (0 < x.vals.length) = false := decide_eq_false (by omega)
                    have HN0 := hide hn0
                    clear hn0
                    by_cases h1 : x.op = 1
                    · have HVT : Hid (V = x.vals.all valueB) := hide (by rw [← HV3.out, decide_eq_true h1, decide_eq_true HN0.out]; rfl)
                      rw [h1] at c5
                      go_wp2_with fail
                      refine HCV.out.mono ?_
                      rintro _ w4 ⟨rfl, rfl⟩
                      go_wp2_with fail
                      go_ret
                      exact ⟨ret_b (by first | rw [HVT.out] | (rw [HVT.out]; simp)), tr_below HB0.out HB4.out⟩
                    · have o2 : (x.op == 1) = false := beq_eq_false_iff_ne.2 h1
                      have o4 : (x.op != 1) = true := by rw [bne, o2]; rfl
                      by_cases h3 : x.op = 3
                      · have HVT : Hid (V = x.vals.all valueB) := hide (by rw [← HV3.out, decide_eq_true h3, decide_eq_true HN0.out, Bool.or_true]; rfl)
                        rw [h3] at c5
                        go_wp2_with fail
                        refine HCV.out.mono ?_
                        rintro _ w4 ⟨rfl, rfl⟩
                        go_wp2_with fail
                        go_ret
                        exact ⟨ret_b (by first | rw [HVT.out] | (rw [HVT.out]; simp)), tr_below HB0.out HB4.out⟩
                      · have o3 : (x.op == 3) = false := beq_eq_false_iff_ne.2 h3
                        have o5 : (x.op != 3) = true := by rw [bne, o3]; rfl
                        have HVF : Hid (V = false) := hide (by rw [← HV3.out, decide_eq_false h1, decide_eq_false h3]; rfl)
                        go_wp2_with fail
                        go_ret
                        exact ⟨ret_b HVF.out.symm, tr_below HB0.out HB4.out⟩
                  · have HVF : Hid (V = false) := hide (by rw [← HV3.out, decide_eq_false hn0, Bool.and_false]; rfl)
                    have n2 : (0 : Int) < (x.vals.length : Nat) := by omega
                    have hd : decide (0 < x.vals.length) = true := decide_eq_true (by omega)
                    by_cases h1 : x.op = 1
                    · rw [h1] at c5
                      go_wp2_with fail
                      go_ret
                      exact ⟨ret_b HVF.out.symm, tr_below HB0.out HB4.out⟩
                    · have o2 : (x.op == 1) = false := beq_eq_false_iff_ne.2 h1
                      have o4 : (x.op != 1) = true := by rw [bne, o2]; rfl
                      by_cases h3 : x.op = 3
                      · rw [h3] at c5
                        go_wp2_with fail
                        go_ret
                        exact ⟨ret_b HVF.out.symm, tr_below HB0.out HB4.out⟩
                      · have o3 : (x.op == 3) = false := beq_eq_false_iff_ne.2 h3
                        have o5 : (x.op != 3) = true := by rw [bne, o3]; rfl
                        go_wp2_with fail
                        go_ret
                        exact ⟨ret_b HVF.out.symm, tr_below HB0.out HB4.out⟩
end Go.Proofs.YtoodmhlefaepaaaGreat
