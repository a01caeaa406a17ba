/-
  The law of the parts, walked.
-/
import Derived.Test.YtpiocaomlifljaaNetPa
import Derived.Deep.LoopGhost
import Derived.Deep.DeepCutAuto
namespace Go.Proofs.Ytpiocaomlifljaa
open Go.RowKit Go.Proofs.PlLex Go.Proofs.PlNet Go.Proofs.PlMap
attribute [local go_sem] run_makeMap

theorem ways_size {l : List Ob} (h : ∀ o ∈ l, okO o) {x : BA} (hx : inWays l x = true) : x.size ≤ 100000 := by
  obtain ⟨o, ho⟩ := Option.isSome_iff_exists.1 (inWays_node hx)
  obtain ⟨h1, h2⟩ := findO_some ho
  rw [← h2]
  exact (h o (List.mem_filter.1 h1).1).1
theorem flat_le (l : List Ob) (P : List (List BA)) (h : PtsI l P) : P.flatten.length ≤ l.length := by
  refine Nat.le_trans (len_le h.nodup (fun x hx => ?_)) (usedL_len l l)
  obtain ⟨r, hr, hx⟩ := List.mem_flatten.1 hx
  exact (mem_usedL x).2 (h.used r hr x hx)
theorem part_le {P : List (List BA)} {i : Nat} {r : List BA} (hr : P[i]? = some r) : r.length ≤ P.flatten.length ∧ (P.take i).flatten.length + r.length ≤ P.flatten.length := by
  rw [flat_split hr]
  simp only [List.length_append]
  omega
theorem parts_le {P : List (List BA)} (h : ∀ r ∈ P, r ≠ []) : P.length ≤ P.flatten.length := by
  induction P with
  | nil => simp
  | cons r P ih =>
    have h1 := ih (fun r hr => h r (by simp [hr]))
    have h2 := List.length_pos_iff.2 (h r (by simp))
    rw [List.flatten_cons, List.length_append, List.length_cons]
    omega
theorem ltB_less {a b : BA} (h : ltB a b = true) : Go.Op.bytesLess a.toList b.toList = true := h
/-- What is reached from a part's first node, so far. -/
structure RcF (r : List BA) (x0 : BA) (ks : List BA) : Prop where
  nodup : ks.Nodup
  first : x0 ∈ ks
  sub : ∀ x ∈ ks, x ∈ r
theorem RcF.le {r : List BA} {x0 : BA} {ks : List BA} (h : RcF r x0 ks) : ks.length ≤ r.length := len_le h.nodup h.sub
theorem RcF.add {r : List BA} {x0 x : BA} {ks : List BA} (h : RcF r x0 ks) (hx : x ∈ r) : RcF r x0 (addK ks x) :=
  ⟨addK_nodup h.nodup, mem_addK.2 (.inl h.first), fun y hy => (mem_addK.1 hy).elim (h.sub y) (fun e => by rw [e]; exact hx)⟩
theorem reach_step {l : List Ob} {P : List (List BA)} (h : PtsI l P) {r : List BA} (hr : r ∈ P) {y : Ar} (hy : y ∈ arcsL l) (hf : y.f ∈ r) : y.t ∈ r := by
  obtain ⟨_, h2, h3⟩ := arc_con hy
  exact (h.con r hr _ hf _ h2).2 h3
theorem reach_all {l : List Ob} (hm : mapB l = true) {P : List (List BA)} (h : PtsI l P) {r : List BA} (hr : r ∈ P) {x0 : BA} {ks : List BA} (hk : RcF r x0 ks) (hc : ∀ y ∈ arcsL l, y.f ∈ ks → y.t ∈ ks) : ks.length = r.length := by
  have hx0 := hk.sub _ hk.first
  refine len_same hk.nodup (sorted_nodup (h.srt r hr)) hk.sub (fun x hx => ?_)
  have := (h.con r hr x0 hx0 x (h.used r hr x hx)).1 hx
  exact (closed_con hm (K := fun z => z ∈ ks) hc this).1 hk.first
theorem same_part {l : List Ob} {P : List (List BA)} (h : PtsI l P) {y : Ar} (hy : y ∈ arcsL l) : ∃ v : Int, 1 ≤ v ∧ posP P y.f = v ∧ posP P y.t = v ∧ y.f ∈ P.flatten ∧ y.t ∈ P.flatten := by
  obtain ⟨h1, _, _⟩ := arc_con hy
  obtain ⟨r, hr, hf⟩ := h.all _ h1
  have ht := reach_step h hr hy hf
  obtain ⟨i, hi⟩ := List.getElem?_of_mem hr
  exact ⟨(i : Int) + 1, by omega, posP_of h.nodup hi hf, posP_of h.nodup hi ht, List.mem_flatten.2 ⟨r, hr, hf⟩, List.mem_flatten.2 ⟨r, hr, ht⟩⟩
theorem froms_len {l : List Ob} (hm : mapB l = true) {P : List (List BA)} (h : PtsI l P) {ns : List BA} (hn : ns.Nodup) (hs : ∀ x, x ∈ ns ↔ ∃ y ∈ arcsL l, y.f = x) : ns.length = P.flatten.length := by
  refine len_same hn h.nodup (fun x hx => ?_) (fun x hx => ?_)
  · obtain ⟨y, hy, rfl⟩ := (hs x).1 hx
    obtain ⟨_, _, _, _, h1, _⟩ := same_part h hy
    exact h1
  · obtain ⟨r, hr, hx⟩ := List.mem_flatten.1 hx
    obtain ⟨a, ha, h2⟩ := arc_from hm (h.used r hr x hx)
    exact (hs x).2 ⟨a, ha, h2⟩
/-- A part in memory. -/
theorem part_at {w6 : World} {g o : Nat} {P : List (List BA)} (h : GrO w6 g o P) {i : Nat} {r : List BA} (hr : P[i]? = some r) (hne : r ≠ []) :
    ∃ gi oi ci, w6.cell? ⟨g, o + i, none⟩ = some (.slice (some ⟨gi, oi, none⟩) r.length ci) ∧ ∀ (k : Nat) x, r[k]? = some x → w6.cell? ⟨gi, oi + k, none⟩ = some (.string x) := by
  obtain ⟨iv, h1, A, c, rfl, _, h2⟩ := h i r hr
  obtain ⟨gi, oi, rfl, _, h3⟩ := h2.resolve_left hne
  exact ⟨gi, oi, c, h1, h3⟩
set_option maxRecDepth 100000 in
set_option maxHeartbeats 16000000 in
theorem partslaw_any (l : List Ob) (v : Value) (w : World) (hv : MapW w v l) :
    Calls Try.prog 7 #[.agg #[v]] w fun e w' => e = .returned (.bool true) ∧ Below w.heap.size w w' := by
  have hlen := hv.len
  obtain ⟨A, c, rfl, _, hA⟩ := id hv.obs
  obtain ⟨wa, hwa⟩ : ∃ wa, w.alloc (.cells #[.slice A l.length c] 24) = wa := ⟨_, rfl⟩
  have ha : Below w.heap.size w wa := by rw [← hwa]; exact (Below.refl _ _).alloc (Nat.le_refl _) _
  have hm : wa.heap[w.heap.size]? = some (.cells #[.slice A l.length c] 24 (0, 0)) := by rw [← hwa]; exact heap_alloc_new w _
  have HV := hide (hv.below ha)
  have HH := hide (head_any wa)
  clear hv hA
  go_enter Try.func7, Try.ntmps7
  go_wp2_with fail
  refine HH.out.mono ?_
  rintro _ w1 ⟨rfl, b1⟩
  have hm1 := blkB b1 hm
  have hb1 := bto ha b1
  have HV1 := hide (HV.out.below b1)
  have dm := (blk1 hm1).1
  have HF := hide (fewlaw_any l _ w1 HV1.out)
  clear hwa ha hm HV HH b1
  cases hfew : fewM 24 l with
  | false =>
    rw [hfew] at HF
    clear hfew
    go_wp2_with fail
    refine HF.out.mono ?_
    rintro _ w2 ⟨rfl, b2⟩
    have HB := hide (bto hb1 b2)
    clear dm hm1 b2 hb1
    go_wp2_with fail
    go_ret
    exact ⟨rfl, HB.out⟩
  | true =>
    rw [hfew] at HF
    have HMI := hide (mapI_few HV1.out hfew)
    have HL24 := hide (fewM_ok hfew (fun o ho => (HV1.out.ok o ho).2.2.2.2.1))
    clear hfew
    go_wp2_with fail
    refine HF.out.mono ?_
    rintro _ w2 ⟨rfl, b2⟩
    have hm2 := blkB b2 hm1
    have hb2 := bto hb1 b2
    have HV2 := hide (HV1.out.below b2)
    have HMI2 := hide (HMI.out.below b2)
    have dm := (blk1 hm2).1
    have HVA := hide (avalid_any l _ w2 HMI2.out.obs HMI2.out.len HMI2.out.ok)
    clear HF b2 hb1 hm1 HV1 HMI
    cases hmb : mapB l with
    | false =>
      rw [hmb] at HVA
      clear hmb
      go_wp2_with fail
      refine HVA.out.mono ?_
      rintro _ w3 ⟨rfl, b3⟩
      have HB := hide (bto hb2 b3)
      clear dm hm2 b3 hb2
      go_wp2_with fail
      go_ret
      exact ⟨rfl, HB.out⟩
    | true =>
      rw [hmb] at HVA
      have HMB := hide hmb
      clear hmb
      go_wp2_with fail
      refine HVA.out.mono ?_
      rintro _ w3 ⟨rfl, b3⟩
      have hm3 := blkB b3 hm2
      have hb3 := bto hb2 b3
      have HV3 := hide (HV2.out.below b3)
      have HMI3 := hide (HMI2.out.below b3)
      have dm := (blk1 hm3).1
      have HAC := hide (arcs_any l _ w3 HMI3.out)
      clear HVA b3 hb2 hm2 HV2 HMI2
      go_wp2_with fail
      refine HAC.out.mono ?_
      rintro _ w4 ⟨ra, rfl, har, b4⟩
      rw [if_pos HMB.out] at har
      obtain ⟨L, hL⟩ : ∃ L, arcsL l = L := ⟨_, rfl⟩
      rw [hL] at har
      have HL := hide hL
      obtain ⟨Aa, ca, rfl, har2⟩ := har
      obtain ⟨w5, hw5⟩ : ∃ w5, w4.alloc (.map #[] 0) = w5 := ⟨_, rfl⟩
      have b5 : Below w4.heap.size w4 w5 := by rw [← hw5]; exact (Below.refl _ _).alloc (Nat.le_refl _) _
      have hmp : MapS w5 w4.heap.size [] := by rw [← hw5]; exact mapL_made _ w4
      have hm5 := blkB b5 (blkB b4 hm3)
      have dm5 := (blk1 hm5).1
      have HPA := hide (parts_any l _ w5 (HMI3.out.below (bto b4 b5)))
      have HB4 := hide (bto hb3 b4)
      have HB5 := hide b5
      have HMP := hide hmp
      have HAR2 := hide har2
      have h24 := HL24.out.1
      clear HAC b4 hb3 hm3 HV3 HMI3 dm har2 b5 hmp hm5 hL
      go_wp2_with fail
      refine HPA.out.mono ?_
      rintro _ w6 ⟨rp, rfl, b6, _, hp⟩
      obtain ⟨R, hR, hG⟩ := hp HMB.out
      have hPT := pts_of HMB.out hR
      generalize (partsG R (usedL l l)).map (·.2) = P at *
      have hPU : PuI w6 w4.heap.size [] w6 := ⟨World.grownBy.refl _ _, HMP.out.kept (grown_none b6) (by simp), ⟨[], HMP.out.kept (grown_none b6) (by simp)⟩⟩
      obtain ⟨Ag, cg, rfl, _, hG2⟩ := hG
      have HPT := hide hPT
      have hfl := Nat.le_trans (flat_le l P hPT) h24
      have hPL := Nat.le_trans (parts_le hPT.ne) hfl
      have HG2 := hide hG2
      have HB6 := hide (bto HB5.out b6)
      have HPU := hide hPU
      have hlb : L.length ≤ 1000000000 := by
        rw [← HL.out]
        refine Nat.le_trans (onceA_len [] (allArcs l)) ?_
        have h1 := allArcs_len l l HL24.out.2
        have h2 := HL24.out.1
        unfold allArcs
        rw [List.length_nil]
        omega
      have HBW := hide (bto HB4.out HB6.out)
      have HBO : Hid (∀ M W, PuI w6 w4.heap.size M W → Below w.heap.size w W) := hide (fun M W h => by
        refine HBW.out.grown h.gr (Nat.le_trans HBW.out.size (Nat.le_refl _)) (fun k hk => by cases hk; exact HB4.out.size))
      have HAR6 : Hid (L = [] ∨ ∃ g o, Aa = some ⟨g, o, none⟩ ∧ ArO w6 g o L) := hide (HAR2.out.imp id (fun ⟨g, o, h1, h2, h3⟩ => ⟨g, o, h1, h3.below h2 HB6.out⟩))
      clear HPA b6 hp hR hG2 hPT hPU HAR2 HMP dm5 hw5
      go_wp2_with fail
      go_loopg [7, 8] P.length (fun gk tot i wr => ∃ (k : Nat) (M : List (BA × Value)), k ≤ P.length ∧ P.length ≤ k + gk ∧ tot = .int .i64 ((P.take k).flatten.length : Nat) ∧ i = .int .i64 k ∧ Hid (PuI w6 w4.heap.size M wr) ∧ Hid (OfR (posP P) (P.take k).flatten M))
      case atStart => exact ⟨0, [], Nat.zero_le _, by omega, rfl, rfl, HPU, hide (OfR.nil _)⟩
      case round =>
        obtain ⟨i, M, hi, hgk, rfl, rfl, hpu, hof⟩ := hrel
        obtain ⟨T, hT⟩ : ∃ T, (P.take i).flatten.length = T := ⟨_, rfl⟩
        rw [hT]
        have HT := hide hT
        by_cases hlt : i < P.length
        · obtain ⟨g', rfl⟩ : ∃ g', gk = g' + 1 := ⟨gk - 1, by omega⟩
          obtain ⟨g, o, rfl, hg, hGO⟩ := HG2.out.resolve_left (by rintro rfl; simp at hlt)
          have hri := List.getElem?_eq_getElem hlt
          have hrm := List.getElem_mem hlt
          obtain ⟨r, hr⟩ : ∃ r, P[i] = r := ⟨_, rfl⟩
          rw [hr] at hri hrm
          have hne := HPT.out.ne r hrm
          obtain ⟨gi, oi, ci, hc, hce⟩ := part_at hGO hri hne
          have hle := part_le hri
          rw [hT] at hle
          clear hT
          have hpos : 0 < r.length := List.length_pos_iff.2 hne
          have hx0 : r[0]? = some (headR r) := by
            cases r with
            | nil => exact (hne rfl).elim
            | cons z r => rfl
          have hce0 := hce 0 _ hx0
          rw [Nat.add_zero] at hce0
          have HORD : Hid (∀ j s, j < i → P[j]? = some s → ltB (headR s) (headR r) = true) := hide (fun j s hj hs => by
            obtain ⟨hj2, hs2⟩ := List.getElem?_eq_some_iff.1 hs
            have := List.pairwise_iff_getElem.1 HPT.out.ord j i hj2 hlt hj
            rwa [hs2, hr] at this)
          generalize hx : headR r = x0 at *
          have HX0 := hide hx
          have C0 : ∀ u : Pts w6 w4.heap.size M, u.w.cell? ⟨g, o + i, none⟩ = some (.slice (some ⟨gi, oi, none⟩) r.length ci) := fun u => u.2.cell hc
          have C1 : ∀ u : Pts w6 w4.heap.size M, u.w.cell? ⟨gi, oi, none⟩ = some (.string x0) := fun u => u.2.cell hce0
          have YN : Nonempty (Pts w6 w4.heap.size M) := ⟨⟨_, hpu.out⟩⟩
          have i0 : (0 : Int) ≤ i := by omega
          have i1 : (i : Int) < P.length := by omega
          have n0 : ((r.length : Int) == 0) = false := beq_eq_false_iff_ne.2 (by omega)
          have n1 : ¬ r = [] := hne
          have n2 : ¬ r.length = 0 := by omega
          have hpd := hpu.out.lift (below_drew wr)
          have HRM := hide hrm
          have HRI := hide hri
          have HCE := hide hce
          have HC := hide hc
          have HLT := hide hlt
          have HGK1 := hide hgk
          have HOF := hide hof.out
          have HPU2 := hide hpu.out
          clear hr hx hri hrm hc hce hce0 hx0 hlt hpu hof hgk
          go_wp2_with fail
          go_cut [70] (fun s70 wx => s70 = .bool false ∧ Hid (PuI w6 w4.heap.size M wx))
          case first =>
            by_cases hi0 : i = 0
            · have z0 : decide (0 < i) = false := decide_eq_false (by omega)
              clear hi0
              refine wp_region_quietW (J := Pts w6 w4.heap.size M) Pts.w ⟨_, hpd⟩ rfl (by kernel_rfl) (by kernel_rfl) ?_
              repeat (go_big_quiet_step (fail))
              refine wpQuiet_nil ?_
              rintro w9 ⟨u, rfl⟩
              have HB := hide (show PuI w6 w4.heap.size M u.w from u.2)
              go_wp2_with fail
              go_meet
              exact ⟨rfl, HB⟩
            · have z0 : decide (0 < i) = true := decide_eq_true (by omega)
              have hj1 : i - 1 < P.length := by have := HLT.out; omega
              have hsj := List.getElem?_eq_getElem hj1
              have hnej := HPT.out.ne _ (List.getElem_mem hj1)
              have hless := ltB_less (HORD.out (i - 1) _ (by omega) hsj)
              generalize P[i - 1] = s at *
              obtain ⟨gj, oj, cj, hcj, hcje⟩ := part_at hGO hsj hnej
              have hy0 : s[0]? = some (headR s) := by
                cases s with
                | nil => exact (hnej rfl).elim
                | cons z s => rfl
              have hcj0 := hcje 0 _ hy0
              rw [Nat.add_zero] at hcj0
              have hposj : 0 < s.length := List.length_pos_iff.2 hnej
              generalize headR s = y0 at *
              have D0 : ∀ u : Pts w6 w4.heap.size M, u.w.cell? ⟨g, o + (i - 1), none⟩ = some (.slice (some ⟨gj, oj, none⟩) s.length cj) := fun u => u.2.cell hcj
              have D1 : ∀ u : Pts w6 w4.heap.size M, u.w.cell? ⟨gj, oj, none⟩ = some (.string y0) := fun u => u.2.cell hcj0
              have s0 : IntKind.i64.wrap ((i : Int) - 1) = (i : Int) - 1 := IntWalk.i64_in _ (by omega)
              have s1 : ((i : Int) - 1).toNat = i - 1 := by omega
              have s2 : (0 : Int) ≤ (i : Int) - 1 := by omega
              have s3 : (i : Int) - 1 < P.length := by omega
              have s4 : decide ((0 : Int) < s.length) = true := decide_eq_true (by omega)
              have s5 : decide (0 < s.length) = true := decide_eq_true (by omega)
              have s6 : (0 : Int) < s.length := by omega
              have s7 : ¬ s = [] := hnej
              clear hcj hcje hcj0 hy0 hsj hj1 hi0
              refine wp_region_quietW (J := Pts w6 w4.heap.size M) Pts.w ⟨_, hpd⟩ rfl (by kernel_rfl) (by kernel_rfl) ?_
              repeat (go_big_quiet_step (fail))
              refine wpQuiet_nil ?_
              rintro w9 ⟨u, rfl⟩
              have HB := hide (show PuI w6 w4.heap.size M u.w from u.2)
              go_wp2_with fail
              go_meet
              exact ⟨rfl, HB⟩
          case rest =>
            obtain ⟨rfl, hpu⟩ := hcut
            have HP7 := hide hpu.out
            have HO7 : Hid (OfR (posP P) ((P.take i).flatten ++ r.take 0) M) := by
              have := HOF.out
              rw [List.take_zero, List.append_nil]
              exact hide this
            clear hpu C0 C1 HPU2 hpd
            go_wp2_with fail
            go_loopg [7, 9] r.length (fun gk tot j wr => ∃ (k : Nat) (M : List (BA × Value)), k ≤ r.length ∧ r.length ≤ k + gk ∧ tot = .int .i64 ((T + k : Nat)) ∧ j = .int .i64 k ∧ Hid (PuI w6 w4.heap.size M wr) ∧ Hid (OfR (posP P) ((P.take i).flatten ++ r.take k) M))
            case atStart => exact ⟨0, M, Nat.zero_le _, by omega, rfl, rfl, HP7, HO7⟩
            case round =>
              obtain ⟨k, M, hk, hgk, rfl, rfl, hpu, hof⟩ := hrel
              have C0 : ∀ u : Pts w6 w4.heap.size M, u.w.cell? ⟨g, o + i, none⟩ = some (.slice (some ⟨gi, oi, none⟩) r.length ci) := fun u => u.2.cell HC.out
              have c0 := hpu.out.cell HC.out
              by_cases hkl : k < r.length
              · obtain ⟨g2, rfl⟩ : ∃ g2, gk = g2 + 1 := ⟨gk - 1, by omega⟩
                have hxk := List.getElem?_eq_getElem hkl
                have hxm := List.getElem_mem hkl
                obtain ⟨x, hx⟩ : ∃ x, r[k] = x := ⟨_, rfl⟩
                rw [hx] at hxk hxm
                have hfr := fresh_at HPT.out.nodup HRI.out hxk
                have hsz := ways_size HL24.out.2 (HPT.out.used r HRM.out x hxm)
                have hval := posP_of HPT.out.nodup HRI.out hxm
                have C1 : ∀ u : Pts w6 w4.heap.size M, u.w.cell? ⟨gi, oi + k, none⟩ = some (.string x) := fun u => u.2.cell (HCE.out k x hxk)
                have hnot : hasS x ((P.take i).flatten ++ r.take k) = false := by
                  rw [← Bool.not_eq_true, hasS_mem]
                  exact hfr
                have LK : ∀ u : Pts w6 w4.heap.size M, (Instr.lookup 50 (.map (some w4.heap.size)) (.string x) false).run Try.prog u.w = .ok (.int .i64 0) u.w := fun u => by
                  have := PuI.look u.2 hof.out x hsz
                  rw [hnot] at this
                  exact this
                have YN : Nonempty (Pts w6 w4.heap.size M) := ⟨⟨_, hpu.out⟩⟩
                have k0 : (0 : Int) ≤ k := by omega
                have k1 : (k : Int) < r.length := by omega
                have hpd := hpu.out.lift (below_drew wr)
                have HPV := hide hpu.out
                have HSRT : Hid (∀ j (hj : j < k), ∃ y, r[j]? = some y ∧ ltB y x = true) := hide (fun j hj => by
                  have hj2 : j < r.length := by omega
                  refine ⟨r[j], List.getElem?_eq_getElem hj2, ?_⟩
                  have := List.pairwise_iff_getElem.1 (HPT.out.srt r HRM.out) j k hj2 hkl hj
                  rwa [hx] at this)
                have HTK : Hid (r.take (k + 1) = r.take k ++ [x]) := by
                  rw [List.take_succ_eq_append_getElem hkl, hx]
                  exact hide rfl
                have hdl : ((P.take i).flatten ++ r.take k).length ≤ 24 := by
                  rw [List.length_append, List.length_take, HT.out]
                  omega
                have HVAL := hide hval
                have HOF2 := hide hof.out
                have HSZ := hide hsz
                have HXK := hide hxk
                have HKL := hide hkl
                have HDL := hide hdl
                have HGK := hide hgk
                clear hx hxk hxm hfr hsz hval hnot hpu hof hkl hgk hdl
                go_wp2_with fail
                go_cut [111] (fun s wx => s = .bool false ∧ Hid (PuI w6 w4.heap.size M wx))
                case first =>
                  by_cases hk0 : k = 0
                  · have z0 : decide (0 < k) = false := decide_eq_false (by omega)
                    clear hk0
                    refine wp_region_quietW (J := Pts w6 w4.heap.size M) Pts.w ⟨_, hpd⟩ rfl (by kernel_rfl) (by kernel_rfl) ?_
                    repeat (go_big_quiet_step (fail))
                    refine wpQuiet_nil ?_
                    rintro w9 ⟨u, rfl⟩
                    have HB := hide (show PuI w6 w4.heap.size M u.w from u.2)
                    go_wp2_with fail
                    go_meet
                    exact ⟨rfl, HB⟩
                  · have z0 : decide (0 < k) = true := decide_eq_true (by omega)
                    obtain ⟨y, hy, hyl⟩ := HSRT.out (k - 1) (by omega)
                    have hless := ltB_less hyl
                    have D1 : ∀ u : Pts w6 w4.heap.size M, u.w.cell? ⟨gi, oi + (k - 1), none⟩ = some (.string y) := fun u => u.2.cell (HCE.out (k - 1) y hy)
                    have s0 : IntKind.i64.wrap ((k : Int) - 1) = (k : Int) - 1 := IntWalk.i64_in _ (by omega)
                    have s1 : ((k : Int) - 1).toNat = k - 1 := by omega
                    have s2 : (0 : Int) ≤ (k : Int) - 1 := by omega
                    have s3 : (k : Int) - 1 < r.length := by omega
                    clear hy hyl hk0
                    refine wp_region_quietW (J := Pts w6 w4.heap.size M) Pts.w ⟨_, hpd⟩ rfl (by kernel_rfl) (by kernel_rfl) ?_
                    repeat (go_big_quiet_step (fail))
                    refine wpQuiet_nil ?_
                    rintro w9 ⟨u, rfl⟩
                    have HB := hide (show PuI w6 w4.heap.size M u.w from u.2)
                    go_wp2_with fail
                    go_meet
                    exact ⟨rfl, HB⟩
                case rest =>
                  obtain ⟨rfl, hpu⟩ := hcut
                  have c1 := hpu.out.cell (HCE.out k x HXK.out)
                  have c0' := hpu.out.cell HC.out
                  obtain ⟨W1, M1, hst, hpu1, hof1⟩ := hpu.out.store HOF2.out x HSZ.out (by have := HDL.out; omega) HVAL.out.symm
                  have HP1 := hide hpu1
                  have HO1 : Hid (OfR (posP P) ((P.take i).flatten ++ r.take (k + 1)) M1) := by
                    rw [HTK.out, ← List.append_assoc]
                    exact hide hof1
                  clear C0 C1 LK c0 hpu hpu1 hof1 HPV hpd
                  go_wp2_with fail
                  go_roundg g2
                  case measure => omega
                  case rel => exact ⟨k + 1, M1, by have := HKL.out; omega, by have := HGK.out; omega, by go_num, by go_num, HP1, HO1⟩
              · obtain rfl : k = r.length := by omega
                have HPV := hide hpu.out
                have HO1 : Hid (OfR (posP P) (P.take (i + 1)).flatten M) := by
                  have := hof.out
                  rw [List.take_length, ← flat_next HRI.out] at this
                  exact hide this
                have HTOT : Hid ((P.take (i + 1)).flatten.length = T + r.length) := by rw [flat_next HRI.out, List.length_append, HT.out]; exact hide rfl
                obtain ⟨wb, hwb⟩ : ∃ wb, wr.alloc (.map #[] 0) = wb := ⟨_, rfl⟩
                have hst0 := StI.made HPV.out
                rw [hwb] at hst0
                have hrs0 := hst0.pt.cell HC.out
                have hce0 : r[0]? = some x0 := by
                  have := HX0.out
                  unfold headR at this
                  cases r with
                  | nil => exact (n1 rfl).elim
                  | cons z r => simp at this; simp [this]
                have hx0 := hst0.pt.cell (HCE.out 0 x0 hce0)
                rw [Nat.add_zero] at hx0
                have hx0m := List.mem_of_getElem? hce0
                obtain ⟨W1, hst, hst1⟩ := hst0.add x0 (ways_size HL24.out.2 (HPT.out.used r HRM.out x0 hx0m)) (by simp)
                have HST1 := hide hst1
                have HRC1 : Hid (RcF r x0 (addK [] x0)) := hide ⟨addK_nodup List.nodup_nil, mem_addK.2 (.inr rfl), fun y hy => (mem_addK.1 hy).elim (fun h => nomatch h) (fun e => by rw [e]; exact hx0m)⟩
                have HLN1 : Hid ((addK [] x0).length = 1) := hide (addK_len_new rfl)
                generalize addK [] x0 = ks0 at *
                clear hpu hof hkl C0 hst0 hce0 hx0m hst1
                go_wp2_with fail
                clear hst hwb hrs0 hx0 c0
                generalize wr.heap.size = br at *
                go_loopg [11] r.length (fun gk ag wr => ∃ (a : Bool) (ks : List BA), ag = .bool a ∧ Hid (StI w6 w4.heap.size M br ks wr) ∧ Hid (RcF r x0 ks) ∧ Hid (a = false → ∀ y ∈ L, y.f ∈ ks → y.t ∈ ks) ∧ Hid (a = true → r.length + 1 ≤ ks.length + gk))
                case atStart => exact ⟨true, ks0, rfl, HST1, HRC1, (fun h => by cases h), hide (fun _ => by rw [HLN1.out]; omega)⟩
                case round =>
                  obtain ⟨a, ks, rfl, hst, hrc, hcl, hgk⟩ := hrel
                  cases a with
                  | true =>
                    have hg1 := hgk.out rfl
                    have hle2 := hrc.out.le
                    obtain ⟨g3, rfl⟩ : ∃ g3, gk = g3 + 1 := ⟨gk - 1, by omega⟩
                    have HST := hide hst.out
                    have HRC := hide hrc.out
                    have HG1 := hide hg1
                    clear hst hrc hcl hgk hg1 hle2
                    go_wp2_with fail
                    go_loopg [11, 12] L.length (fun gk ag j wr => ∃ (m : Nat) (a : Bool) (k2 : List BA), m ≤ L.length ∧ L.length ≤ m + gk ∧ ag = .bool a ∧ j = .int .i64 m ∧ Hid (StI w6 w4.heap.size M br k2 wr) ∧ Hid (RcF r x0 k2) ∧ Hid (ks.length ≤ k2.length) ∧ Hid (a = true → ks.length < k2.length) ∧ Hid (a = false → ∀ y ∈ L.take m, y.f ∈ k2 → y.t ∈ k2))
                    case atStart => exact ⟨0, false, ks, Nat.zero_le _, by omega, rfl, rfl, HST, HRC, hide (Nat.le_refl _), (fun h => by cases h), hide (fun _ y hy => by simp at hy)⟩
                    case round =>
                      obtain ⟨m, a, k2, hm, hgk, rfl, rfl, hst, hrc, hkk, hat, haf⟩ := hrel
                      by_cases hml : m < L.length
                      · obtain ⟨g4, rfl⟩ : ∃ g4, gk = g4 + 1 := ⟨gk - 1, by omega⟩
                        obtain ⟨ga, oa, rfl, hAO⟩ := HAR6.out.resolve_left (by rintro rfl; simp at hml)
                        have hky := List.getElem?_eq_getElem hml
                        have hmy := List.getElem_mem hml
                        have htk : ∀ y ∈ L.take (m + 1), y ∈ L.take m ∨ y = L[m] := fun y hy => by
                          rw [List.take_succ_eq_append_getElem hml, List.mem_append] at hy
                          exact hy.imp id (fun h => by simpa using h)
                        generalize L[m] = y at *
                        obtain ⟨q0, q1, _, _⟩ := hAO m y hky
                        have hyl : y ∈ arcsL l := by rw [HL.out]; exact hmy
                        obtain ⟨hw1, hw2, _⟩ := arc_con hyl
                        have z1 := ways_size HL24.out.2 hw1
                        have z2 := ways_size HL24.out.2 hw2
                        have c1 := hst.out.pt.cell q0
                        have c2 := hst.out.pt.cell q1
                        have l1 := hst.out.look y.f z1
                        have l2 := hst.out.look y.t z2
                        have m0 : (0 : Int) ≤ m := by omega
                        have m1 : (m : Int) < L.length := by omega
                        have HRS := hide (fun (hf : y.f ∈ k2) => reach_step HPT.out HRM.out hyl (hrc.out.sub _ hf))
                        have HML := hide hml
                        have HGK := hide hgk
                        cases ef : hasS y.f k2 with
                        | false =>
                          rw [ef] at l1
                          have HF3 : Hid (a = false → ∀ z ∈ L.take (m + 1), z.f ∈ k2 → z.t ∈ k2) := hide (fun ha z hz hzf => (htk z hz).elim (fun h => haf.out ha z h hzf) (fun e => by
                            rw [e] at hzf
                            rw [(hasS_mem _ _).2 hzf] at ef
                            cases ef))
                          have HS := hide hst.out
                          have HR3 := hide hrc.out
                          have HKK := hide hkk.out
                          have HAT := hide hat.out
                          clear hst hrc hkk hat haf hml hky hmy htk hyl hw1 hw2 q0 q1 hgk ef
                          go_wp2_with fail
                          go_roundg g4
                          case measure => omega
                          case rel => exact ⟨m + 1, a, k2, by have := HML.out; omega, by have := HGK.out; omega, rfl, by go_num, HS, HR3, HKK, HAT, HF3⟩
                        | true =>
                          rw [ef] at l1
                          cases et : hasS y.t k2 with
                          | true =>
                            rw [et] at l2
                            have HF3 : Hid (a = false → ∀ z ∈ L.take (m + 1), z.f ∈ k2 → z.t ∈ k2) := hide (fun ha z hz hzf => (htk z hz).elim (fun h => haf.out ha z h hzf) (fun e => by
                              rw [e]
                              exact (hasS_mem _ _).1 et))
                            have HS := hide hst.out
                            have HR3 := hide hrc.out
                            have HKK := hide hkk.out
                            have HAT := hide hat.out
                            clear hst hrc hkk hat haf hml hky hmy htk hyl hw1 hw2 q0 q1 hgk ef et
                            go_wp2_with fail
                            go_roundg g4
                            case measure => omega
                            case rel => exact ⟨m + 1, a, k2, by have := HML.out; omega, by have := HGK.out; omega, rfl, by go_num, HS, HR3, HKK, HAT, HF3⟩
                          | false =>
                            rw [et] at l2
                            have hkl := hrc.out.le
                            obtain ⟨W2, hs2, hst2⟩ := hst.out.add y.t z2 (by omega)
                            have HS := hide hst2
                            have HR3 := hide (hrc.out.add (HRS.out ((hasS_mem _ _).1 ef)))
                            have HLN := hide (addK_len_new et)
                            have HKK := hide hkk.out
                            clear hst hst2 hrc hkk hat haf hml hky hmy htk hyl hw1 hw2 q0 q1 hgk ef et hkl
                            go_wp2_with fail
                            go_roundg g4
                            case measure => omega
                            case rel => exact ⟨m + 1, true, addK k2 y.t, by have := HML.out; omega, by have := HGK.out; omega, rfl, by go_num, HS, HR3, hide (by have := HLN.out; have := HKK.out; omega), hide (fun _ => by have := HLN.out; have := HKK.out; omega), (fun h => by cases h)⟩
                      · obtain rfl : m = L.length := by omega
                        have HS := hide hst.out
                        have HR3 := hide hrc.out
                        have HKK := hide hkk.out
                        have HAT := hide hat.out
                        have HAF : Hid (a = false → ∀ y ∈ L, y.f ∈ k2 → y.t ∈ k2) := by
                          have := haf.out
                          rw [List.take_length] at this
                          exact hide this
                        clear hst hrc hkk hat haf hml hgk
                        go_wp2_with fail
                        go_roundg g3
                        case measure => omega
                        case rel => exact ⟨a, k2, rfl, HS, HR3, HAF, hide (fun h => by have := HAT.out h; have := HG1.out; omega)⟩
                  | false =>
                    have hln := reach_all HMB.out HPT.out HRM.out hrc.out (fun y hy => hcl.out rfl y (by rw [← HL.out]; exact hy))
                    have C0 : ∀ u : Sts w6 w4.heap.size M br ks, u.w.cell? ⟨g, o + i, none⟩ = some (.slice (some ⟨gi, oi, none⟩) r.length ci) := fun u => u.2.pt.cell HC.out
                    have LN : ∀ (u : Sts w6 w4.heap.size M br ks) (ty : TypeId), (Builtin.len_ #[51] ty #[.map (some br)]).run Try.prog u.w = .ok (.int .i64 r.length) u.w := fun u ty => by
                      have := StI.len u.2 ty
                      rw [hln] at this
                      exact this
                    have hsd := hst.out.lift (below_drew wr)
                    have YN : Nonempty (Sts w6 w4.heap.size M br ks) := ⟨⟨_, hst.out⟩⟩
                    clear hst hrc hcl hgk hln
                    go_wp2_with fail
                    refine wp_region_quietW (J := Sts w6 w4.heap.size M br ks) Sts.w ⟨_, hsd⟩ rfl (by kernel_rfl) (by kernel_rfl) ?_
                    repeat (go_big_quiet_step (fail))
                    refine wpQuiet_nil ?_
                    rintro w9 ⟨u, rfl⟩
                    have HB := hide (show PuI w6 w4.heap.size M u.w from u.2.pt)
                    go_wp2_with fail
                    go_roundg g'
                    case measure => omega
                    case rel => exact ⟨i + 1, M, by have := HLT.out; omega, by have := HGK1.out; omega, by rw [HTOT.out], by go_num, HB, HO1⟩
        · obtain rfl : i = P.length := by omega
          have hof2 := hof.out
          rw [List.take_length] at hof2 hT
          have HOF := hide hof2
          have HTF := hide hT
          have HST0 := hide (StI.made hpu.out)
          obtain ⟨wb, hwb⟩ : ∃ wb, wr.alloc (.map #[] 0) = wb := ⟨_, rfl⟩
          rw [hwb] at HST0
          have hTl : T ≤ 24 := by rw [← hT]; exact hfl
          clear hpu hof hof2 hT hlt hgk
          go_wp2_with fail
          clear hwb
          generalize wr.heap.size = bn at *
          go_loopg [14] L.length (fun gk j wr => ∃ (m : Nat) (ns : List BA), m ≤ L.length ∧ L.length ≤ m + gk ∧ j = .int .i64 m ∧ Hid (StI w6 w4.heap.size M bn ns wr) ∧ Hid (ns.Nodup ∧ ns.length ≤ m ∧ ∀ x, x ∈ ns ↔ ∃ y ∈ L.take m, y.f = x))
          case atStart => exact ⟨0, [], Nat.zero_le _, by omega, rfl, HST0, hide ⟨List.nodup_nil, Nat.le_refl _, fun x => by simp⟩⟩
          case round =>
            obtain ⟨m, ns, hm, hgk, rfl, hst, hns⟩ := hrel
            by_cases hml : m < L.length
            · obtain ⟨g4, rfl⟩ : ∃ g4, gk = g4 + 1 := ⟨gk - 1, by omega⟩
              obtain ⟨ga, oa, rfl, hAO⟩ := HAR6.out.resolve_left (by rintro rfl; simp at hml)
              have hky := List.getElem?_eq_getElem hml
              have hmy := List.getElem_mem hml
              have htk : ∀ x, (∃ z ∈ L.take (m + 1), z.f = x) ↔ (∃ z ∈ L.take m, z.f = x) ∨ L[m].f = x := fun x => by
                rw [List.take_succ_eq_append_getElem hml]
                constructor
                · rintro ⟨z, hz, h⟩
                  rcases List.mem_append.1 hz with hz | hz
                  · exact .inl ⟨z, hz, h⟩
                  · simp only [List.mem_singleton] at hz
                    exact .inr (by rw [← hz]; exact h)
                · rintro (⟨z, hz, h⟩ | h)
                  · exact ⟨z, List.mem_append_left _ hz, h⟩
                  · exact ⟨_, List.mem_append_right _ (List.mem_singleton.2 rfl), h⟩
              generalize L[m] = y at *
              obtain ⟨q0, q1, _, _⟩ := hAO m y hky
              have hyl : y ∈ arcsL l := by rw [HL.out]; exact hmy
              obtain ⟨hw1, hw2, _⟩ := arc_con hyl
              have z1 := ways_size HL24.out.2 hw1
              have z2 := ways_size HL24.out.2 hw2
              obtain ⟨v, hv1, hv2, hv3, hv4, hv5⟩ := same_part HPT.out hyl
              have c1 := hst.out.pt.cell q0
              obtain ⟨W2, hs2, hst2⟩ := hst.out.add y.f z1 (by have := hns.out.2.1; omega)
              have C1 : ∀ u : Sts w6 w4.heap.size M bn (addK ns y.f), u.w.cell? ⟨ga, oa + m * 4, none⟩ = some (.string y.f) := fun u => u.2.pt.cell q0
              have C2 : ∀ u : Sts w6 w4.heap.size M bn (addK ns y.f), u.w.cell? ⟨ga, oa + m * 4 + 1, none⟩ = some (.string y.t) := fun u => u.2.pt.cell q1
              have L1 : ∀ u : Sts w6 w4.heap.size M bn (addK ns y.f), (Instr.lookup 50 (.map (some w4.heap.size)) (.string y.f) false).run Try.prog u.w = .ok (.int .i64 v) u.w := fun u => by
                have := u.2.pt.look HOF.out y.f z1
                rw [(hasS_mem _ _).2 hv4, if_pos rfl, hv2] at this
                exact this
              have L2 : ∀ u : Sts w6 w4.heap.size M bn (addK ns y.f), (Instr.lookup 50 (.map (some w4.heap.size)) (.string y.t) false).run Try.prog u.w = .ok (.int .i64 v) u.w := fun u => by
                have := u.2.pt.look HOF.out y.t z2
                rw [(hasS_mem _ _).2 hv5, if_pos rfl, hv3] at this
                exact this
              have YN : Nonempty (Sts w6 w4.heap.size M bn (addK ns y.f)) := ⟨⟨_, hst2⟩⟩
              have hsd := hst2.lift (below_drew W2)
              have v1 : (v == 0) = false := beq_eq_false_iff_ne.2 (by omega)
              have v2 : ¬ v = 0 := by omega
              have m0 : (0 : Int) ≤ m := by omega
              have m1 : (m : Int) < L.length := by omega
              have HNS := hide (show (addK ns y.f).Nodup ∧ (addK ns y.f).length ≤ m + 1 ∧ ∀ x, x ∈ addK ns y.f ↔ ∃ z ∈ L.take (m + 1), z.f = x from ⟨addK_nodup hns.out.1, by have := addK_len ns y.f; have := hns.out.2.1; omega, fun x => by rw [mem_addK, htk, hns.out.2.2]; exact or_congr Iff.rfl eq_comm⟩)
              have HML := hide hml
              have HGK := hide hgk
              clear hst hst2 hns hml hgk hky hmy htk hyl hw1 hw2 z1 z2 hv1 hv2 hv3 hv4 hv5 q0 q1
              go_wp2_with fail
              refine wp_region_quietW (J := Sts w6 w4.heap.size M bn (addK ns y.f)) Sts.w ⟨_, hsd⟩ rfl (by kernel_rfl) (by kernel_rfl) ?_
              repeat (go_big_quiet_step (fail))
              refine wpQuiet_nil ?_
              rintro w9 ⟨u, rfl⟩
              have HB := hide (show StI w6 w4.heap.size M bn (addK ns y.f) u.w from u.2)
              go_wp2_with fail
              go_roundg g4
              case measure => omega
              case rel => exact ⟨m + 1, addK ns y.f, by have := HML.out; omega, by have := HGK.out; omega, by go_num, HB, HNS⟩
            · obtain rfl : m = L.length := by omega
              have hns2 := hns.out.2.2
              rw [List.take_length] at hns2
              have hlen := froms_len HMB.out HPT.out hns.out.1 (fun x => by rw [HL.out]; exact hns2 x)
              rw [HTF.out] at hlen
              have LN : ∀ ty : TypeId, (Builtin.len_ #[51] ty #[.map (some bn)]).run Try.prog wr = .ok (.int .i64 T) wr := fun ty => by
                have := hst.out.len ty
                rw [hlen] at this
                exact this
              have HB := hide (HBO.out M wr hst.out.pt)
              clear hst hns hns2 hlen hml hgk
              go_wp2_with fail
              go_ret
              exact ⟨rfl, HB.out⟩
end Go.Proofs.Ytpiocaomlifljaa
