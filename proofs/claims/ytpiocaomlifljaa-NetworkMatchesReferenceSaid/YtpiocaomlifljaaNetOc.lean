/-
  The law of the turned map, walked.
-/
import Derived.Test.YtpiocaomlifljaaNetOb
import Derived.Test.YtpiocaomlifljaaNetSa
import Derived.Test.YtpiocaomlifljaaNetHc
import Derived.Test.YtpiocaomlifljaaPlainT
namespace Go.Proofs.Ytpiocaomlifljaa
open Go.RowKit Go.Proofs.PlLex Go.Proofs.PlNet Go.Proofs.PlMap

theorem turnL_snoc (q : Nat → Ob → Bool) (l : List Ob) (o : Ob) : ∀ i, turnL q i (l ++ [o]) = turnL q i l ++ [turnO (q (i + l.length) o) o] := by
  induction l with
  | nil => intro i; rfl
  | cons x l ih =>
    intro i
    rw [List.cons_append, turnL, ih, turnL, List.cons_append]
    rw [show i + 1 + l.length = i + (x :: l).length by simp; omega]
theorem turnL_next (q : Nat → Ob → Bool) (l : List Ob) (k : Nat) (t : Ob) (h : l[k]? = some t) : turnL q 0 (l.take (k + 1)) = turnL q 0 (l.take k) ++ [turnO (q k t) t] := by
  have hk : k < l.length := (List.getElem?_eq_some_iff.1 h).1
  rw [List.take_add_one, h]
  show turnL q 0 (l.take k ++ [t]) = _
  rw [turnL_snoc, List.length_take, Nat.zero_add, Nat.min_eq_left (by omega)]
theorem okO_turn {b : Bool} {o : Ob} (h : okO o) : okO (turnO b o) := by
  obtain ⟨h1, h2, h3, h4, h5⟩ := h
  refine ⟨by rw [turnO_id]; exact h1, by rw [turnO_len]; exact h2, fun s hs => h3 s ((turnO_mem b o s).1 hs), by rw [turnO_tags]; exact h4, by rw [turnO_tags]; exact h5⟩
/-- Which objects the law turns: the routes, and the ways whose bit is set. -/
def turnQ (n : Int) (i : Nat) (o : Ob) : Bool := decide (o.kind = 4) || (decide (o.kind = 2) && (Go.bits .and .u32 (n / 2 ^ i) 1 == 1))
theorem turnQ_fit (n : Int) : fitQ (turnQ n) := by
  intro i o h
  unfold turnQ at h
  simp only [Bool.or_eq_true, Bool.and_eq_true, decide_eq_true_eq] at h
  exact h.elim .inr (fun h => .inl h.1)
theorem set_refs {W : World} {b : Nat} {a0 a1 a2 a3 a4 a5 x : Value} {t : TypeId} (h : W.heap[b]? = some (.cells #[a0, a1, a2, a3, a4, a5] t (0, 0))) : (W.setCell ⟨b, 4, none⟩ x).heap[b]? = some (.cells #[a0, a1, a2, a3, x, a5] t (0, 0)) := by
  obtain ⟨hlt, hk⟩ := Array.getElem?_eq_some_iff.1 h
  show (W.heap.modify b _)[b]? = _
  rw [Array.getElem?_eq_getElem (by simpa using hlt), Array.getElem_modify_self, hk]
  rfl
/-- Two maps in two boxes. -/
structure TwM (w : World) (B1 B2 : Nat) (va vb : Value) (l T : List Ob) (W : World) : Prop where
  a : MapI W va l
  b : MapI W vb T
  c : W.heap[B1]? = some (.cells #[va] 24 (0, 0))
  e : W.heap[B2]? = some (.cells #[vb] 24 (0, 0))
  below : Below w.heap.size w W
theorem TwM.lift {w : World} {B1 B2 : Nat} {va vb : Value} {l T : List Ob} {W W' : World} (h : TwM w B1 B2 va vb l T W) (hb : Below W.heap.size W W') : TwM w B1 B2 va vb l T W' :=
  ⟨h.a.below hb, h.b.below hb, blkB hb h.c, blkB hb h.e, bto h.below hb⟩
theorem TwM.cells {w : World} {B1 B2 : Nat} {va vb : Value} {l T : List Ob} {W : World} (h : TwM w B1 B2 va vb l T W) : TwM w B1 B2 va vb l T W ∧ W.cell? ⟨B1, 0, none⟩ = some va ∧ W.cell? ⟨B2, 0, none⟩ = some vb :=
  ⟨h, (blk1 h.c).1, (blk1 h.e).1⟩
theorem BoI.box9 {w1 : World} {bb : Nat} {R : List OV} {v : Value} {W w' : World} (h : BoI w1 bb R v W) (hg : W.grownBy w' v.ownBlock) : w'.heap[bb]? = some (.cells #[v] 24 (0, 0)) :=
  (hg.block bb (lt_of_block h.box) (fun e => h.ne e.symm)).trans h.box
theorem samevi_true (L : List (Int × BA)) (hl : L.length ≤ 1000000000) (va vb : Value) (w : World) (ha : ViS w va L) (hb : ViS w vb L) :
    Calls Try.prog 12 #[va, vb] w fun e w' => e = .returned (.bool true) ∧ Below w.heap.size w w' :=
  (samevi_any L L va vb w ha hb hl).mono fun _ _ h => ⟨by rw [h.1, decide_eq_true rfl], h.2⟩
theorem samearcs_true (L : List Ar) (hl : L.length ≤ 1000000000) (va vb : Value) (w : World) (ha : ArS w va L) (hb : ArS w vb L) :
    Calls Try.prog 15 #[va, vb] w fun e w' => e = .returned (.bool true) ∧ Below w.heap.size w w' :=
  (samearcs_any L L va vb w ha hb hl).mono fun _ _ h => ⟨by rw [h.1, decide_eq_true rfl], h.2⟩
theorem lists_true (L : List (List BA)) (hl : L.length ≤ 1000000000) (hm : ∀ r ∈ L, r.length ≤ maxLen) (va vb : Value) (w : World) (ha : GrS w va L) (hb : GrS w vb L) :
    Calls Try.prog 18 #[va, vb] w fun e w' => e = .returned (.bool true) ∧ Below w.heap.size w w' :=
  (lists_any L L va vb w ha hb hl hm hm).mono fun _ _ h => ⟨by rw [h.1, decide_eq_true rfl], h.2⟩
theorem checkL_len (l : List Ob) : (checkL l).length ≤ 2 * l.length := by
  unfold checkL
  rw [List.length_append, List.length_map, List.length_map]
  have h1 := List.length_filter_le (badRoute l) l
  have h2 := List.length_filter_le (badTurn l) l
  omega
theorem parts_len (R : BA → BA) (l : List Ob) : ((partsG R (usedL l l)).map (·.2)).length ≤ l.length ∧ ∀ r ∈ (partsG R (usedL l l)).map (·.2), r.length ≤ l.length := by
  have h := usedL_len l l
  refine ⟨by rw [List.length_map]; exact Nat.le_trans (partsG_len R _) h, fun r hr => ?_⟩
  obtain ⟨p, hp, rfl⟩ := List.mem_map.1 hr
  exact Nat.le_trans (partsG_each R _ p hp) h

set_option maxRecDepth 100000 in
set_option maxHeartbeats 16000000 in
theorem turnlaw_any (l : List Ob) (v : Value) (n : Int) (w : World) (hv : MapW w v l) (_ : 0 ≤ n ∧ n < 4294967296) :
    Calls Try.prog 9 #[.agg #[v], .int .u32 n] w fun e w' => e = .returned (.bool true) ∧ Below w.heap.size w w' := by
  have hlen := hv.len
  obtain ⟨A, c, rfl, _, hA⟩ := id hv.obs
  obtain ⟨wa, hwa⟩ : ∃ wa, w.alloc (.cells #[.slice A l.length c] 24) = wa := ⟨_, rfl⟩
  have ha : Below w.heap.size w wa := by rw [← hwa]; exact (Below.refl _ _).alloc (Nat.le_refl _) _
  have hm : wa.heap[w.heap.size]? = some (.cells #[.slice A l.length c] 24 (0, 0)) := by rw [← hwa]; exact heap_alloc_new w _
  have HV := hide (hv.below ha)
  have HH := hide (head_any wa)
  clear hv hA
  go_enter Try.func9, Try.ntmps9
  go_wp2_with fail
  refine HH.out.mono ?_
  rintro _ w1 ⟨rfl, b1⟩
  have hm1 := blkB b1 hm
  have hb1 := bto ha b1
  have HV1 := hide (HV.out.below b1)
  have dm := (blk1 hm1).1
  have HF := hide (fewlaw_any l _ w1 HV1.out)
  clear hwa ha hm HV HH b1
  cases hfew : fewM 24 l with
  | false =>
    rw [hfew] at HF
    clear hfew
    go_wp2_with fail
    refine HF.out.mono ?_
    rintro _ w2 ⟨rfl, b2⟩
    have HB := hide (bto hb1 b2)
    clear dm hm1 b2 hb1
    go_wp2_with fail
    go_ret
    exact ⟨rfl, HB.out⟩
  | true =>
    rw [hfew] at HF
    have HL24 := hide (fewM_ok hfew (fun o ho => (HV1.out.ok o ho).2.2.2.2.1))
    have HMI := hide (show MapI w1 _ l from ⟨HV1.out.obs, by have := HL24.out.1; omega, HL24.out.2⟩)
    clear hfew
    go_wp2_with fail
    refine HF.out.mono ?_
    rintro _ w2 ⟨rfl, b2⟩
    have hm2 := blkB b2 hm1
    have hb2 := bto hb1 b2
    have HMI2 := hide (HMI.out.below b2)
    have dm := (blk1 hm2).1
    have HVA := hide (avalid_any l _ w2 HMI2.out.obs HMI2.out.len HMI2.out.ok)
    clear HF b2 hb1 hm1 HV1 HMI
    cases hmb : mapB l with
    | false =>
      rw [hmb] at HVA
      clear hmb
      go_wp2_with fail
      refine HVA.out.mono ?_
      rintro _ w3 ⟨rfl, b3⟩
      have HB := hide (bto hb2 b3)
      clear dm hm2 b3 hb2
      go_wp2_with fail
      go_ret
      exact ⟨rfl, HB.out⟩
    | true =>
      rw [hmb] at HVA
      have HMB := hide hmb
      clear hmb
      go_wp2_with fail
      refine HVA.out.mono ?_
      rintro _ w3 ⟨rfl, b3⟩
      have HM3 := hide (blkB b3 hm2)
      have HB3 := hide (bto hb2 b3)
      have HMI3 := hide (HMI2.out.below b3)
      clear HVA b3 hb2 hm2 HMI2 dm
      obtain ⟨i0, hi, hz0, hz1, hz2⟩ := info_parts info_ob
      have HI := hide hi
      have HZ0 := hide hz0
      have HZ1 := hide hz1
      have HZ2 := hide hz2
      clear hi hz0 hz1 hz2
      obtain ⟨wb, hwb⟩ : ∃ wb, w3.alloc (.cells #[.slice none 0 0] 24) = wb := ⟨_, rfl⟩
      have hbb : Below w3.heap.size w3 wb := by rw [← hwb]; exact (Below.refl _ _).alloc (Nat.le_refl _) _
      have HB0 := hide (BoI.nil (bb := w3.heap.size) hbb (Nat.le_refl _) (by rw [← hwb]; exact heap_alloc_new _ _))
      have hl24 := HL24.out.1
      obtain ⟨A3, c3, e3, _, hA3⟩ := id HMI3.out.obs
      cases e3
      have HA := hide hA3
      clear hbb hA3
      go_wp2_with fail
      clear hwb
      go_loopw [7] (fun i wr => ∃ (k : Nat) (R : List OV) (Ar : Option Addr) (cr : Nat), k ≤ l.length ∧ i = .int .i64 k ∧ Hid (BoI w3 w3.heap.size R (.slice Ar R.length cr) wr) ∧ Hid (R.map OV.o = turnL (turnQ n) 0 (l.take k))) (fun i _ => l.length - (intOf i).toNat)
      case atStart => exact ⟨0, [], none, 0, Nat.zero_le _, rfl, HB0, rfl⟩
      case round =>
        obtain ⟨k, R, Ar, cr, hk, rfl, hbo, hR⟩ := hrel
        by_cases hlt : k < l.length
        · obtain ⟨g, o, rfl, hg, hp⟩ := HA.out.resolve_left (by rintro rfl; simp at hlt)
          have hkt := List.getElem?_eq_getElem hlt
          obtain ⟨rv, tv, hoa⟩ := hp k _ hkt
          have hnext := turnL_next (turnQ n) l k _ hkt
          have hmem := List.getElem_mem hlt
          have hok := HL24.out.2 _ hmem
          generalize l[k] = t at *
          have hRL : R.length = k := by
            have := congrArg List.length hR.out
            rw [List.length_map, turnL_length, List.length_take] at this
            omega
          have hsr := hoa.refs
          have hst := hoa.tags
          obtain ⟨Ao, co, hrv, _⟩ := id hoa.refs
          obtain ⟨Ag, cg, htv, _⟩ := id hoa.tags
          subst hrv
          subst htv
          obtain ⟨c0, c1, c2, c3, c4, c5, _, _⟩ := hoa.below hg hbo.out.below
          have e0 : wr.cell? ⟨w.heap.size, 0, none⟩ = some (.slice (some ⟨g, o, none⟩) l.length c) := (blk1 (blkB hbo.out.below HM3.out)).1
          obtain ⟨wo, hwo⟩ : ∃ wo, wr.alloc (.cells #[.string t.id, .int .i64 t.kind, .int .i64 t.x, .int .i64 t.y, .slice Ao t.refs.length co, .slice Ag t.tags.length cg] 42) = wo := ⟨_, rfl⟩
          have hblk : wo.heap[wr.heap.size]? = some (.cells #[.string t.id, .int .i64 t.kind, .int .i64 t.x, .int .i64 t.y, .slice Ao t.refs.length co, .slice Ag t.tags.length cg] 42 (0, 0)) := by rw [← hwo]; exact heap_alloc_new _ _
          have hbo2 : Below wr.heap.size wr wo := by rw [← hwo]; exact (Below.refl _ _).alloc (Nat.le_refl _) _
          have d0 := cell_of_row wo _ 0 _ _ _ hblk
          have d1 := cell_of_row wo _ 1 _ _ _ hblk
          have d2 := cell_of_row wo _ 2 _ _ _ hblk
          have d3 := cell_of_row wo _ 3 _ _ _ hblk
          have d4 := cell_of_row wo _ 4 _ _ _ hblk
          have d5 := cell_of_row wo _ 5 _ _ _ hblk
          simp only [List.getElem?_toArray, List.getElem?_cons_zero, List.getElem?_cons_succ] at d0 d1 d2 d3 d4 d5
          have k0 : (0 : Int) ≤ k := by omega
          have k1 : (k : Int) < l.length := by omega
          have HKL := hide (show k + 1 ≤ l.length from hlt)
          have HMS := hide (show l.length - (k + 1) < l.length - k from by omega)
          have HBO := hide hbo.out
          have HWO := hide hbo2
          have HBL := hide hblk
          have HNX := hide hnext
          have HOK := hide hok
          have HSR := hide hsr
          have HST := hide hst
          have HR := hide hR.out
          have HRL := hide hRL
          clear hlt hp hkt hmem hok hsr hst hoa hbo hR hblk hbo2 hnext hRL
          by_cases h4 : t.kind = 4
          · have f4 : (t.kind == 4) = true := by simpa using h4
            have HQ := hide (show turnQ n k t = true from by unfold turnQ; rw [decide_eq_true h4]; rfl)
            clear h4
            have HBK := hide (fun W (hb : Below w3.heap.size w3 W) => back_any t.refs _ W ((HSR.out.below hb)) (by have := HOK.out.2.1; omega))
            go_wp2_with fail
            refine (HBK.out _ (HBO.out.lift HWO.out).below).mono ?_
            rintro _ w7 ⟨A7, c7, rfl, s7, o7, b7⟩
            obtain ⟨w8, hw8⟩ : ∃ w8, w7.setCell ⟨wr.heap.size, 4, none⟩ (.slice A7 t.refs.length c7) = w8 := ⟨_, rfl⟩
            have hbl7 := blkB b7 HBL.out
            have hset8 : w7.grownBy w8 (some wr.heap.size) := by rw [← hw8]; exact grown_set w7 ⟨wr.heap.size, 4, none⟩ _
            have hbl8 : w8.heap[wr.heap.size]? = some (.cells #[.string t.id, .int .i64 t.kind, .int .i64 t.x, .int .i64 t.y, .slice A7 t.refs.length c7, .slice Ag t.tags.length cg] 42 (0, 0)) := by
              rw [← hw8]; exact set_refs hbl7
            have g0 := cell_of_row w7 _ 4 _ _ _ hbl7
            have g1 := frozen_of_row w7 _ 4 _ _ hbl7
            simp only [List.getElem?_toArray, List.getElem?_cons_zero, List.getElem?_cons_succ] at g0
            have hwr8 : Below wr.heap.size wr w8 := by rw [← hw8]; exact (bto HWO.out b7).setCell (Nat.le_refl _) _
            have hlt8 : wr.heap.size < wo.heap.size := lt_of_block HBL.out
            have s8 : StS w8 (.slice A7 t.refs.length c7) t.refs.reverse := s7.kept hset8 (fun _ b hb e => by have := o7 b hb; cases e; omega)
            have ap8 : Apart (.slice A7 t.refs.length c7) w3.heap.size (Value.slice Ar R.length cr).ownBlock t.refs.reverse := fun _ b hb => ⟨by
              have h1 := o7 b hb; have h2 := lt_of_block HBO.out.box; omega, fun e => by
              obtain ⟨_, cur, hc⟩ := own_block HBO.out.row e
              have h1 := o7 b hb; have h2 := lt_of_block hc; omega⟩
            have HS8 := hide s8
            have HAP := hide ap8
            have hbo8 := HBO.out.lift hwr8
            have t8 : TgS w8 (.slice Ag t.tags.length cg) t.tags := HST.out.below hbo8.below
            have at8 : Apart (.slice Ag t.tags.length cg) w3.heap.size (Value.slice Ar R.length cr).ownBlock t.tags := fun hn b hb => ⟨by
              have h1 := HST.out.own_lt hn b hb; omega, fun e => by
              have h1 := HST.out.own_lt hn b hb; have h2 := (own_block HBO.out.row e).1; omega⟩
            have HT8 := hide t8
            have HAT := hide at8
            have HB8 := hide hbo8
            have HBL8 := hide (show _ from hbl8)
            have hbx := (blk1 hbo8.box).1
            have d0 := cell_of_row w8 _ 0 _ _ _ hbl8
            have d1 := cell_of_row w8 _ 1 _ _ _ hbl8
            have d2 := cell_of_row w8 _ 2 _ _ _ hbl8
            have d3 := cell_of_row w8 _ 3 _ _ _ hbl8
            have d4 := cell_of_row w8 _ 4 _ _ _ hbl8
            have d5 := cell_of_row w8 _ 5 _ _ _ hbl8
            simp only [List.getElem?_toArray, List.getElem?_cons_zero, List.getElem?_cons_succ] at d0 d1 d2 d3 d4 d5
            clear s8 ap8 t8 at8 hbo8 hwr8 hset8 hbl7 hbl8 s7 o7 b7 hlt8 hwo c0 c1 c2 c3 c4 c5 e0
            obtain ⟨wx, hwx⟩ : ∃ wx, w8.alloc (.cells (#[.string t.id, .int .i64 t.kind, .int .i64 t.x, .int .i64 t.y, .slice A7 t.refs.length c7, .slice Ag t.tags.length cg] : Array Value) 42) = wx := ⟨_, rfl⟩
            have hbx8 : Below w8.heap.size w8 wx := by rw [← hwx]; exact (Below.refl _ _).alloc (Nat.le_refl _) _
            have HBX := hide (HB8.out.lift hbx8)
            have HXX := hide hbx8
            have HNC := hide (show ∀ j u, ((⟨turnO true t, .slice A7 t.refs.length c7, .slice Ag t.tags.length cg⟩ : OV)).cells[j]? = some u → wx.cell? (Addr.add ⟨w8.heap.size, 0, none⟩ j) = some u from fun j u hj => by rw [← hwx]; exact new_cells w8 ((⟨turnO true t, .slice A7 t.refs.length c7, .slice Ag t.tags.length cg⟩ : OV)).cells 42 j u hj)
            have HSZ := hide (show wx.heap.size = w8.heap.size + 1 from by rw [← hwx]; simp)
            clear hbx8
            go_wp2_with (at_builtin; go_must (refine wpList_append_lies _ rfl (.tmp 52) (.tmp 54) 22 rfl w3.heap.size 42 i0 (.agg #[.string ⟨#[]⟩, .int .i64 0, .int .i64 0, .int .i64 0, .slice none 0 0, .slice none 0 0]) 6 88 Try.underlying22 HI.out HZ0.out HZ1.out HZ2.out rfl (by decide) (.slice Ar R.length cr) R.length (cellsX R) rfl ?c0 ⟨w8.heap.size, 0, none⟩ 1 1 ((⟨turnO true t, .slice A7 t.refs.length c7, .slice Ag t.tags.length cg⟩ : OV)).cells rfl rfl ?c1 ?c2 (by decide) ?c3 ?c4 ?c5 (w8.heap.size + 1) ?c6 ?_))
            case c0 => exact HBX.out.row
            case c1 => exact HNC.out
            case c2 => intro u hu; simp [OV.cells] at hu; rcases hu with rfl | rfl | rfl | rfl | rfl | rfl <;> rfl
            case c3 => unfold maxLen; have := HRL.out; omega
            case c4 => have := HRL.out; omega
            case c5 => exact HBX.out.below.size
            case c6 => exact HSZ.out
            intro g9 cap w9 hown9 hgrow9 hat9 _
            have hbo9 := BoI.more (x := (⟨turnO true t, .slice A7 t.refs.length c7, .slice Ag t.tags.length cg⟩ : OV)) HBX.out (HS8.out.below HXX.out) ((show TgS wx _ (turnO true t).tags from HT8.out.below HXX.out)) HAP.out HAT.out hown9 hgrow9 (by rw [HSZ.out]; exact hat9)
            have hb9 := HBX.out.box9 hgrow9
            have hc9 := (blk1 hb9).1
            have hf9 := (blk1 hb9).2
            have HB9 := hide hbo9
            clear hbo9 hb9 hown9 hgrow9 hat9 hwx hw8 d0 d1 d2 d3 d4 d5 hbx
            have HR2 := hide (show (R ++ [(⟨turnO true t, .slice A7 t.refs.length c7, .slice Ag t.tags.length cg⟩ : OV)]).map OV.o = turnL (turnQ n) 0 (l.take (k + 1)) from by
              rw [HNX.out, HQ.out, List.map_append, HR.out]; rfl)
            go_wp2_with fail
            refine ⟨⟨k + 1, R ++ [(⟨turnO true t, .slice A7 t.refs.length c7, .slice Ag t.tags.length cg⟩ : OV)], some ⟨g9, 0, none⟩, cap, HKL.out, by go_num, HB9, HR2⟩, ?_⟩
            have := HMS.out
            simp [intOf]; omega
          · by_cases h2 : t.kind = 2
            · have f4 : (t.kind == 4) = false := by simpa using h4
              have f2 : (t.kind == 2) = true := by simpa using h2
              cases hbt : (Go.bits .and .u32 (n / 2 ^ k) 1 == 1) with
              | true =>
                have HQ := hide (show turnQ n k t = true from by unfold turnQ; rw [decide_eq_true h2, hbt]; simp)
                clear h2
                have HBK := hide (fun W (hb : Below w3.heap.size w3 W) => back_any t.refs _ W ((HSR.out.below hb)) (by have := HOK.out.2.1; omega))
                go_wp2_with fail
                refine (HBK.out _ (HBO.out.lift HWO.out).below).mono ?_
                rintro _ w7 ⟨A7, c7, rfl, s7, o7, b7⟩
                obtain ⟨w8, hw8⟩ : ∃ w8, w7.setCell ⟨wr.heap.size, 4, none⟩ (.slice A7 t.refs.length c7) = w8 := ⟨_, rfl⟩
                have hbl7 := blkB b7 HBL.out
                have hset8 : w7.grownBy w8 (some wr.heap.size) := by rw [← hw8]; exact grown_set w7 ⟨wr.heap.size, 4, none⟩ _
                have hbl8 : w8.heap[wr.heap.size]? = some (.cells #[.string t.id, .int .i64 t.kind, .int .i64 t.x, .int .i64 t.y, .slice A7 t.refs.length c7, .slice Ag t.tags.length cg] 42 (0, 0)) := by
                  rw [← hw8]; exact set_refs hbl7
                have g0 := cell_of_row w7 _ 4 _ _ _ hbl7
                have g1 := frozen_of_row w7 _ 4 _ _ hbl7
                simp only [List.getElem?_toArray, List.getElem?_cons_zero, List.getElem?_cons_succ] at g0
                have hwr8 : Below wr.heap.size wr w8 := by rw [← hw8]; exact (bto HWO.out b7).setCell (Nat.le_refl _) _
                have hlt8 : wr.heap.size < wo.heap.size := lt_of_block HBL.out
                have s8 : StS w8 (.slice A7 t.refs.length c7) t.refs.reverse := s7.kept hset8 (fun _ b hb e => by have := o7 b hb; cases e; omega)
                have ap8 : Apart (.slice A7 t.refs.length c7) w3.heap.size (Value.slice Ar R.length cr).ownBlock t.refs.reverse := fun _ b hb => ⟨by
                  have h1 := o7 b hb; have h2 := lt_of_block HBO.out.box; omega, fun e => by
                  obtain ⟨_, cur, hc⟩ := own_block HBO.out.row e
                  have h1 := o7 b hb; have h2 := lt_of_block hc; omega⟩
                have HS8 := hide s8
                have HAP := hide ap8
                have hbo8 := HBO.out.lift hwr8
                have t8 : TgS w8 (.slice Ag t.tags.length cg) t.tags := HST.out.below hbo8.below
                have at8 : Apart (.slice Ag t.tags.length cg) w3.heap.size (Value.slice Ar R.length cr).ownBlock t.tags := fun hn b hb => ⟨by
                  have h1 := HST.out.own_lt hn b hb; omega, fun e => by
                  have h1 := HST.out.own_lt hn b hb; have h2 := (own_block HBO.out.row e).1; omega⟩
                have HT8 := hide t8
                have HAT := hide at8
                have HB8 := hide hbo8
                have HBL8 := hide (show _ from hbl8)
                have hbx := (blk1 hbo8.box).1
                have d0 := cell_of_row w8 _ 0 _ _ _ hbl8
                have d1 := cell_of_row w8 _ 1 _ _ _ hbl8
                have d2 := cell_of_row w8 _ 2 _ _ _ hbl8
                have d3 := cell_of_row w8 _ 3 _ _ _ hbl8
                have d4 := cell_of_row w8 _ 4 _ _ _ hbl8
                have d5 := cell_of_row w8 _ 5 _ _ _ hbl8
                simp only [List.getElem?_toArray, List.getElem?_cons_zero, List.getElem?_cons_succ] at d0 d1 d2 d3 d4 d5
                clear s8 ap8 t8 at8 hbo8 hwr8 hset8 hbl7 hbl8 s7 o7 b7 hlt8 hwo c0 c1 c2 c3 c4 c5 e0
                obtain ⟨wx, hwx⟩ : ∃ wx, w8.alloc (.cells (#[.string t.id, .int .i64 t.kind, .int .i64 t.x, .int .i64 t.y, .slice A7 t.refs.length c7, .slice Ag t.tags.length cg] : Array Value) 42) = wx := ⟨_, rfl⟩
                have hbx8 : Below w8.heap.size w8 wx := by rw [← hwx]; exact (Below.refl _ _).alloc (Nat.le_refl _) _
                have HBX := hide (HB8.out.lift hbx8)
                have HXX := hide hbx8
                have HNC := hide (show ∀ j u, ((⟨turnO true t, .slice A7 t.refs.length c7, .slice Ag t.tags.length cg⟩ : OV)).cells[j]? = some u → wx.cell? (Addr.add ⟨w8.heap.size, 0, none⟩ j) = some u from fun j u hj => by rw [← hwx]; exact new_cells w8 ((⟨turnO true t, .slice A7 t.refs.length c7, .slice Ag t.tags.length cg⟩ : OV)).cells 42 j u hj)
                have HSZ := hide (show wx.heap.size = w8.heap.size + 1 from by rw [← hwx]; simp)
                clear hbx8
                go_wp2_with (at_builtin; go_must (refine wpList_append_lies _ rfl (.tmp 52) (.tmp 54) 22 rfl w3.heap.size 42 i0 (.agg #[.string ⟨#[]⟩, .int .i64 0, .int .i64 0, .int .i64 0, .slice none 0 0, .slice none 0 0]) 6 88 Try.underlying22 HI.out HZ0.out HZ1.out HZ2.out rfl (by decide) (.slice Ar R.length cr) R.length (cellsX R) rfl ?c0 ⟨w8.heap.size, 0, none⟩ 1 1 ((⟨turnO true t, .slice A7 t.refs.length c7, .slice Ag t.tags.length cg⟩ : OV)).cells rfl rfl ?c1 ?c2 (by decide) ?c3 ?c4 ?c5 (w8.heap.size + 1) ?c6 ?_))
                case c0 => exact HBX.out.row
                case c1 => exact HNC.out
                case c2 => intro u hu; simp [OV.cells] at hu; rcases hu with rfl | rfl | rfl | rfl | rfl | rfl <;> rfl
                case c3 => unfold maxLen; have := HRL.out; omega
                case c4 => have := HRL.out; omega
                case c5 => exact HBX.out.below.size
                case c6 => exact HSZ.out
                intro g9 cap w9 hown9 hgrow9 hat9 _
                have hbo9 := BoI.more (x := (⟨turnO true t, .slice A7 t.refs.length c7, .slice Ag t.tags.length cg⟩ : OV)) HBX.out (HS8.out.below HXX.out) ((show TgS wx _ (turnO true t).tags from HT8.out.below HXX.out)) HAP.out HAT.out hown9 hgrow9 (by rw [HSZ.out]; exact hat9)
                have hb9 := HBX.out.box9 hgrow9
                have hc9 := (blk1 hb9).1
                have hf9 := (blk1 hb9).2
                have HB9 := hide hbo9
                clear hbo9 hb9 hown9 hgrow9 hat9 hwx hw8 d0 d1 d2 d3 d4 d5 hbx
                have HR2 := hide (show (R ++ [(⟨turnO true t, .slice A7 t.refs.length c7, .slice Ag t.tags.length cg⟩ : OV)]).map OV.o = turnL (turnQ n) 0 (l.take (k + 1)) from by
                  rw [HNX.out, HQ.out, List.map_append, HR.out]; rfl)
                go_wp2_with fail
                refine ⟨⟨k + 1, R ++ [(⟨turnO true t, .slice A7 t.refs.length c7, .slice Ag t.tags.length cg⟩ : OV)], some ⟨g9, 0, none⟩, cap, HKL.out, by go_num, HB9, HR2⟩, ?_⟩
                have := HMS.out
                simp [intOf]; omega
              | false =>
                have HQ := hide (show turnQ n k t = false from by unfold turnQ; rw [decide_eq_false h4, decide_eq_true h2, hbt]; rfl)
                clear h2
                have s8 : StS wo (.slice Ao t.refs.length co) t.refs := HSR.out.below (bto HBO.out.below HWO.out)
                have ap8 : Apart (.slice Ao t.refs.length co) w3.heap.size (Value.slice Ar R.length cr).ownBlock t.refs := fun hn b hb => ⟨by
                  have h1 := HSR.out.own_lt hn b hb; omega, fun e => by
                  have h1 := HSR.out.own_lt hn b hb; have h2 := (own_block HBO.out.row e).1; omega⟩
                have HS8 := hide s8
                have HAP := hide ap8
                have hbo8 := HBO.out.lift HWO.out
                have t8 : TgS wo (.slice Ag t.tags.length cg) t.tags := HST.out.below hbo8.below
                have at8 : Apart (.slice Ag t.tags.length cg) w3.heap.size (Value.slice Ar R.length cr).ownBlock t.tags := fun hn b hb => ⟨by
                  have h1 := HST.out.own_lt hn b hb; omega, fun e => by
                  have h1 := HST.out.own_lt hn b hb; have h2 := (own_block HBO.out.row e).1; omega⟩
                have HT8 := hide t8
                have HAT := hide at8
                have HB8 := hide hbo8
                have HBL8 := hide (show _ from HBL.out)
                have hbx := (blk1 hbo8.box).1
                clear s8 ap8 t8 at8 hbo8
                obtain ⟨wx, hwx⟩ : ∃ wx, wo.alloc (.cells (#[.string t.id, .int .i64 t.kind, .int .i64 t.x, .int .i64 t.y, .slice Ao t.refs.length co, .slice Ag t.tags.length cg] : Array Value) 42) = wx := ⟨_, rfl⟩
                have hbx8 : Below wo.heap.size wo wx := by rw [← hwx]; exact (Below.refl _ _).alloc (Nat.le_refl _) _
                have HBX := hide (HB8.out.lift hbx8)
                have HXX := hide hbx8
                have HNC := hide (show ∀ j u, ((⟨t, .slice Ao t.refs.length co, .slice Ag t.tags.length cg⟩ : OV)).cells[j]? = some u → wx.cell? (Addr.add ⟨wo.heap.size, 0, none⟩ j) = some u from fun j u hj => by rw [← hwx]; exact new_cells wo ((⟨t, .slice Ao t.refs.length co, .slice Ag t.tags.length cg⟩ : OV)).cells 42 j u hj)
                have HSZ := hide (show wx.heap.size = wo.heap.size + 1 from by rw [← hwx]; simp)
                clear hbx8
                go_wp2_with (at_builtin; go_must (refine wpList_append_lies _ rfl (.tmp 52) (.tmp 54) 22 rfl w3.heap.size 42 i0 (.agg #[.string ⟨#[]⟩, .int .i64 0, .int .i64 0, .int .i64 0, .slice none 0 0, .slice none 0 0]) 6 88 Try.underlying22 HI.out HZ0.out HZ1.out HZ2.out rfl (by decide) (.slice Ar R.length cr) R.length (cellsX R) rfl ?c0 ⟨wo.heap.size, 0, none⟩ 1 1 ((⟨t, .slice Ao t.refs.length co, .slice Ag t.tags.length cg⟩ : OV)).cells rfl rfl ?c1 ?c2 (by decide) ?c3 ?c4 ?c5 (wo.heap.size + 1) ?c6 ?_))
                case c0 => exact HBX.out.row
                case c1 => exact HNC.out
                case c2 => intro u hu; simp [OV.cells] at hu; rcases hu with rfl | rfl | rfl | rfl | rfl | rfl <;> rfl
                case c3 => unfold maxLen; have := HRL.out; omega
                case c4 => have := HRL.out; omega
                case c5 => exact HBX.out.below.size
                case c6 => exact HSZ.out
                intro g9 cap w9 hown9 hgrow9 hat9 _
                have hbo9 := BoI.more (x := (⟨t, .slice Ao t.refs.length co, .slice Ag t.tags.length cg⟩ : OV)) HBX.out (HS8.out.below HXX.out) ((HT8.out.below HXX.out)) HAP.out HAT.out hown9 hgrow9 (by rw [HSZ.out]; exact hat9)
                have hb9 := HBX.out.box9 hgrow9
                have hc9 := (blk1 hb9).1
                have hf9 := (blk1 hb9).2
                have HB9 := hide hbo9
                clear hbo9 hb9 hown9 hgrow9 hat9 hwx hwo c0 c1 c2 c3 c4 c5 d0 d1 d2 d3 d4 d5 e0 hbx
                have HR2 := hide (show (R ++ [(⟨t, .slice Ao t.refs.length co, .slice Ag t.tags.length cg⟩ : OV)]).map OV.o = turnL (turnQ n) 0 (l.take (k + 1)) from by
                  rw [HNX.out, HQ.out, List.map_append, HR.out]; rfl)
                go_wp2_with fail
                refine ⟨⟨k + 1, R ++ [(⟨t, .slice Ao t.refs.length co, .slice Ag t.tags.length cg⟩ : OV)], some ⟨g9, 0, none⟩, cap, HKL.out, by go_num, HB9, HR2⟩, ?_⟩
                have := HMS.out
                simp [intOf]; omega
            · have f4 : (t.kind == 4) = false := by simpa using h4
              have f2 : (t.kind == 2) = false := by simpa using h2
              have HQ := hide (show turnQ n k t = false from by unfold turnQ; rw [decide_eq_false h4, decide_eq_false h2]; rfl)
              have s8 : StS wo (.slice Ao t.refs.length co) t.refs := HSR.out.below (bto HBO.out.below HWO.out)
              have ap8 : Apart (.slice Ao t.refs.length co) w3.heap.size (Value.slice Ar R.length cr).ownBlock t.refs := fun hn b hb => ⟨by
                have h1 := HSR.out.own_lt hn b hb; omega, fun e => by
                have h1 := HSR.out.own_lt hn b hb; have h2 := (own_block HBO.out.row e).1; omega⟩
              have HS8 := hide s8
              have HAP := hide ap8
              have hbo8 := HBO.out.lift HWO.out
              have t8 : TgS wo (.slice Ag t.tags.length cg) t.tags := HST.out.below hbo8.below
              have at8 : Apart (.slice Ag t.tags.length cg) w3.heap.size (Value.slice Ar R.length cr).ownBlock t.tags := fun hn b hb => ⟨by
                have h1 := HST.out.own_lt hn b hb; omega, fun e => by
                have h1 := HST.out.own_lt hn b hb; have h2 := (own_block HBO.out.row e).1; omega⟩
              have HT8 := hide t8
              have HAT := hide at8
              have HB8 := hide hbo8
              have HBL8 := hide (show _ from HBL.out)
              have hbx := (blk1 hbo8.box).1
              clear s8 ap8 t8 at8 hbo8
              obtain ⟨wx, hwx⟩ : ∃ wx, wo.alloc (.cells (#[.string t.id, .int .i64 t.kind, .int .i64 t.x, .int .i64 t.y, .slice Ao t.refs.length co, .slice Ag t.tags.length cg] : Array Value) 42) = wx := ⟨_, rfl⟩
              have hbx8 : Below wo.heap.size wo wx := by rw [← hwx]; exact (Below.refl _ _).alloc (Nat.le_refl _) _
              have HBX := hide (HB8.out.lift hbx8)
              have HXX := hide hbx8
              have HNC := hide (show ∀ j u, ((⟨t, .slice Ao t.refs.length co, .slice Ag t.tags.length cg⟩ : OV)).cells[j]? = some u → wx.cell? (Addr.add ⟨wo.heap.size, 0, none⟩ j) = some u from fun j u hj => by rw [← hwx]; exact new_cells wo ((⟨t, .slice Ao t.refs.length co, .slice Ag t.tags.length cg⟩ : OV)).cells 42 j u hj)
              have HSZ := hide (show wx.heap.size = wo.heap.size + 1 from by rw [← hwx]; simp)
              clear hbx8
              go_wp2_with (at_builtin; go_must (refine wpList_append_lies _ rfl (.tmp 52) (.tmp 54) 22 rfl w3.heap.size 42 i0 (.agg #[.string ⟨#[]⟩, .int .i64 0, .int .i64 0, .int .i64 0, .slice none 0 0, .slice none 0 0]) 6 88 Try.underlying22 HI.out HZ0.out HZ1.out HZ2.out rfl (by decide) (.slice Ar R.length cr) R.length (cellsX R) rfl ?c0 ⟨wo.heap.size, 0, none⟩ 1 1 ((⟨t, .slice Ao t.refs.length co, .slice Ag t.tags.length cg⟩ : OV)).cells rfl rfl ?c1 ?c2 (by decide) ?c3 ?c4 ?c5 (wo.heap.size + 1) ?c6 ?_))
              case c0 => exact HBX.out.row
              case c1 => exact HNC.out
              case c2 => intro u hu; simp [OV.cells] at hu; rcases hu with rfl | rfl | rfl | rfl | rfl | rfl <;> rfl
              case c3 => unfold maxLen; have := HRL.out; omega
              case c4 => have := HRL.out; omega
              case c5 => exact HBX.out.below.size
              case c6 => exact HSZ.out
              intro g9 cap w9 hown9 hgrow9 hat9 _
              have hbo9 := BoI.more (x := (⟨t, .slice Ao t.refs.length co, .slice Ag t.tags.length cg⟩ : OV)) HBX.out (HS8.out.below HXX.out) ((HT8.out.below HXX.out)) HAP.out HAT.out hown9 hgrow9 (by rw [HSZ.out]; exact hat9)
              have hb9 := HBX.out.box9 hgrow9
              have hc9 := (blk1 hb9).1
              have hf9 := (blk1 hb9).2
              have HB9 := hide hbo9
              clear hbo9 hb9 hown9 hgrow9 hat9 hwx hwo c0 c1 c2 c3 c4 c5 d0 d1 d2 d3 d4 d5 e0 hbx
              have HR2 := hide (show (R ++ [(⟨t, .slice Ao t.refs.length co, .slice Ag t.tags.length cg⟩ : OV)]).map OV.o = turnL (turnQ n) 0 (l.take (k + 1)) from by
                rw [HNX.out, HQ.out, List.map_append, HR.out]; rfl)
              go_wp2_with fail
              refine ⟨⟨k + 1, R ++ [(⟨t, .slice Ao t.refs.length co, .slice Ag t.tags.length cg⟩ : OV)], some ⟨g9, 0, none⟩, cap, HKL.out, by go_num, HB9, HR2⟩, ?_⟩
              have := HMS.out
              simp [intOf]; omega
        · obtain rfl : k = l.length := by omega
          have hR2 := hR.out
          rw [List.take_length] at hR2
          have hmi : MapI wr (.slice Ar R.length cr) (turnL (turnQ n) 0 l) := by
            refine ⟨?_, by rw [turnL_length]; omega, fun o' ho => ?_⟩
            · have := hbo.out.obs
              rw [hR2] at this
              exact this
            · obtain ⟨j, o, ho2, rfl⟩ := turnL_mem _ l 0 o' ho
              exact okO_turn (HL24.out.2 o ho2)
          have HTW := hide (show TwM w w.heap.size w3.heap.size (.slice A l.length c) (.slice Ar R.length cr) l (turnL (turnQ n) 0 l) wr from ⟨HMI3.out.below hbo.out.below, hmi, blkB hbo.out.below HM3.out, hbo.out.box, bto HB3.out hbo.out.below⟩)
          have e0 := (blk1 HTW.out.c).1
          have C1 := hide (fun W (h : MapI W (.slice A l.length c) l) => check_any l _ W h)
          have C2 := hide (fun W (h : MapI W (.slice Ar R.length cr) (turnL (turnQ n) 0 l)) => check_any _ _ W h)
          have P1 := hide (fun W (h : MapI W (.slice A l.length c) l) => parts_any l _ W h)
          have P2 := hide (fun W (h : MapI W (.slice Ar R.length cr) (turnL (turnQ n) 0 l)) => parts_any _ _ W h)
          rw [if_pos HMB.out] at C1
          rw [if_pos (turn_mapB (turnQ_fit n) HMB.out), turn_check (turnQ_fit n)] at C2
          have HS := hide (samevi_true (checkL l) (by have := checkL_len l; omega))
          have HLE := hide (fun R => parts_len R l)
          have HPE := hide (fun (R R' : BA → BA) (h : ∀ x y, R x = R y ↔ Con (ER l) x y) h' => turn_parts (R := R) (R' := R') (turnQ_fit n) l h h')
          have HMT := hide (turn_mapB (turnQ_fit n) HMB.out)
          clear hR hR2 hmi hbo hk hlt
          generalize turnL (turnQ n) 0 l = T at *
          have HTD := hide (HTW.out.lift (below_drew wr))
          go_wp2_with fail
          go_region_held3 (fun w' => TwM w w.heap.size w3.heap.size (.slice A l.length c) (.slice Ar R.length cr) l T w' ∧ w'.cell? ⟨w.heap.size, 0, none⟩ = some (.slice A l.length c) ∧ w'.cell? ⟨w3.heap.size, 0, none⟩ = some (.slice Ar R.length cr))
            (first | exact HTD.out.cells | exact hk7.cells)
            (first
              | (go_at_call 13; (with_reducible refine (C1.out _ (TwM.a (And.left (by assumption)))).mono ?_); rintro _ w7 ⟨r1, rfl, h1, b7⟩; have hk7 := TwM.lift (And.left (by assumption)) b7)
              | (go_at_call 13; (with_reducible refine (C2.out _ (TwM.b (And.left (by assumption)))).mono ?_); rintro _ w7 ⟨r2, rfl, h2, b7⟩; have hk7 := TwM.lift (And.left (by assumption)) b7; have h1' := h1.below b7)
              | (go_at_call 12; (with_reducible refine (HS.out _ _ _ h1' h2).mono ?_); rintro _ w7 ⟨rfl, b7⟩; have hk7 := TwM.lift (And.left (by assumption)) b7)
              | (go_at_call 19; (with_reducible refine (P1.out _ (TwM.a (And.left (by assumption)))).mono ?_); rintro _ w7 ⟨r1, rfl, b7, _, h1⟩; obtain ⟨R1, q1, h1⟩ := h1 HMB.out; have hk7 := TwM.lift (And.left (by assumption)) b7)
              | (go_at_call 19; (with_reducible refine (P2.out _ (TwM.b (And.left (by assumption)))).mono ?_); rintro _ w7 ⟨r2, rfl, b7, _, h2⟩; obtain ⟨R2, q2, h2⟩ := h2 HMT.out; have hk7 := TwM.lift (And.left (by assumption)) b7; have h1' := h1.below b7)
              | (go_at_call 18; (with_reducible refine (lists_true _ (by have := (HLE.out R1).1; omega) (fun r hr => by have := (HLE.out R1).2 r hr; unfold maxLen; omega) _ _ _ h1' (by rw [HPE.out R1 R2 q1 q2]; exact h2)).mono ?_); rintro _ w7 ⟨rfl, b7⟩; have hk7 := TwM.lift (And.left (by assumption)) b7))
          all_goals
            go_wp2_with fail
            go_ret
            exact ⟨rfl, TwM.below (And.left (by assumption))⟩
end Go.Proofs.Ytpiocaomlifljaa
