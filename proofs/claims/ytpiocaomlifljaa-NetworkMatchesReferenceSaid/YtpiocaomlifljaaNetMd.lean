/-
  The reference's Of (the sound objects of a kind) and has, walked.
-/
import Derived.Test.YtpiocaomlifljaaNetMc
namespace Go.Proofs.Ytpiocaomlifljaa
open Go.RowKit Go.Proofs.PlLex Go.Proofs.PlNet Go.Proofs.PlMap

/-- Objects in a row of the call's own; their lists lie in older memory. -/
structure OwI (w : World) (R : List OV) (vo : Value) (W : World) : Prop where
  row : W.ownsRow w.heap.size 42 6 vo R.length (cellsX R)
  below : Below w.heap.size w W
  refs : ∀ x ∈ R, StS w x.rv x.o.refs
  tags : ∀ x ∈ R, TgS w x.tv x.o.tags
theorem OwI.lift {w : World} {R : List OV} {v : Value} {W W' : World} (h : OwI w R v W) (hb : Below W.heap.size W W') : OwI w R v W' :=
  ⟨own_below h.row hb, bto h.below hb, h.refs, h.tags⟩
theorem OwI.nil {w W : World} (hb : Below w.heap.size w W) : OwI w [] (.slice none 0 0) W :=
  ⟨World.ownsRow_nil _ _ _ _, hb, (fun _ hx => nomatch hx), (fun _ hx => nomatch hx)⟩
theorem OwI.more {w : World} {R : List OV} {v : Value} {W w' : World} {x : OV} {g cap : Nat} (h : OwI w R v W) (hr : StS w x.rv x.o.refs) (ht : TgS w x.tv x.o.tags)
    (ho : w'.ownsRow w.heap.size 42 6 (.slice (some ⟨g, 0, none⟩) (R.length + 1) cap) (R.length + 1) (cellsX R ++ x.cells)) (hg : W.grownBy w' v.ownBlock) :
    OwI w (R ++ [x]) (.slice (some ⟨g, 0, none⟩) (R ++ [x]).length cap) w' := by
  have hlen : (R ++ [x]).length = R.length + 1 := by simp
  rw [hlen]
  refine ⟨?_, h.below.grown hg h.below.size (fun k hk => (own_block h.row hk).1), fun y hy => ?_, fun y hy => ?_⟩
  · rw [cellsX_app, hlen]
    simpa [cellsX] using ho
  · rcases List.mem_append.1 hy with hy | hy
    · exact h.refs y hy
    · rw [List.mem_singleton] at hy; subst hy; exact hr
  · rcases List.mem_append.1 hy with hy | hy
    · exact h.tags y hy
    · rw [List.mem_singleton] at hy; subst hy; exact ht
theorem OwI.obs {w : World} {R : List OV} {v : Value} {W : World} (h : OwI w R v W) : ObsS W v (R.map OV.o) := by
  rcases h.row.2 with ⟨hv, hn⟩ | ⟨g, cap, cur, hv, hg, hh, hc, _⟩
  · subst hv
    rw [List.length_eq_zero_iff.1 hn]
    exact ⟨none, 0, rfl, Nat.le_refl _, .inl rfl⟩
  · subst hv
    refine ⟨some ⟨g, 0, none⟩, cap, by rw [List.length_map], by rw [List.length_map]; exact hc, .inr ⟨g, 0, rfl, lt_of_block hh, fun i ob hi => ?_⟩⟩
    rw [List.getElem?_map, Option.map_eq_some_iff] at hi
    obtain ⟨y, hy, rfl⟩ := hi
    have hm := List.mem_of_getElem? hy
    have key : ∀ j u, y.cells[j]? = some u → W.cell? ⟨g, 0 + i * 6 + j, none⟩ = some u := by
      intro j u hj
      have := h.row.cells (g := g) rfl _ u (cellsX_at R i y hy j u hj)
      have e : (⟨g, 0, none⟩ : Addr).add (i * 6 + j) = ⟨g, 0 + i * 6 + j, none⟩ := by simp only [Addr.add, Nat.zero_add]; split <;> simp_all
      rw [← e]
      exact this
    exact ⟨y.rv, y.tv, key 0 _ rfl, key 1 _ rfl, key 2 _ rfl, key 3 _ rfl, key 4 _ rfl, key 5 _ rfl, (h.refs y hm).below h.below, (h.tags y hm).below h.below⟩
def Ows (w : World) (R : List OV) (v : Value) : Type := {W : World // OwI w R v W}
def Ows.w {w : World} {R : List OV} {v : Value} (u : Ows w R v) : World := u.1
theorem Ows.go {w : World} {R : List OV} {v : Value} (u : Ows w R v) {w8 : World} (hb : Below u.w.heap.size u.w w8) : ∃ u' : Ows w R v, w8 = u'.w := ⟨⟨w8, u.2.lift hb⟩, rfl⟩
/-- Objects in a row of a call's own; their lists lie in the memory before the call. -/
structure OwR (w0 w : World) (R : List OV) (v : Value) (L : List Ob) (W : World) : Prop where
  eq : R.map OV.o = L
  row : W.ownsRow w.heap.size 42 6 v R.length (cellsX R)
  old : ∀ x ∈ R, StS w0 x.rv x.o.refs ∧ TgS w0 x.tv x.o.tags
  from0 : Below w0.heap.size w0 w
  below : Below w.heap.size w W
theorem own_mono {w : World} {B B' : Nat} {e : TypeId} {sz : Nat} {v : Value} {n : Nat} {xs : List Value} (h : w.ownsRow B e sz v n xs) (hb : B' ≤ B) : w.ownsRow B' e sz v n xs := by
  refine ⟨h.1, h.2.imp id ?_⟩
  rintro ⟨g, cap, cur, h1, h2, h3⟩
  exact ⟨g, cap, cur, h1, Nat.le_trans hb h2, h3⟩
theorem OwR.obs {w0 w : World} {R : List OV} {v : Value} {L : List Ob} {W : World} (h : OwR w0 w R v L W) : ObsS W v L := by
  have := OwI.obs (w := w) (R := R) (v := v) (W := W) ⟨h.row, h.below, fun x hx => (h.old x hx).1.below h.from0, fun x hx => (h.old x hx).2.below h.from0⟩
  rw [h.eq] at this
  exact this
/-- The sound objects of a kind. -/
def sndB (l : List Ob) (K : Int) (o : Ob) : Bool := decide (o.kind = K) && soundW l o
def ofL (l : List Ob) (K : Int) : List Ob := if mapB l then l.filter (sndB l K) else []
theorem snd_next (l : List Ob) (K : Int) {m : List Ob} {k : Nat} {t : Ob} (h : m[k]? = some t) : (m.take (k + 1)).filter (sndB l K) = (m.take k).filter (sndB l K) ++ (if sndB l K t then [t] else []) := by
  rw [List.take_add_one, h, List.filter_append]
  congr 1
  simp only [Option.toList_some, List.filter_cons, List.filter_nil]
set_option maxRecDepth 100000 in
set_option maxHeartbeats 16000000 in
theorem of16_own (l : List Ob) (v : Value) (K : Int) (w0 w : World) (hv0 : MapI w0 v l) (hb0 : Below w0.heap.size w0 w) :
    Calls Try.prog 37 #[.agg #[v], .int .i64 K] w fun e w' => ∃ rv R, e = .returned rv ∧ OwR w0 w R rv (ofL l K) w' := by
  have hv := hv0.below hb0
  obtain ⟨i0, hi, hz0, hz1, hz2⟩ := info_parts info_ob
  have HI := hide hi
  have HZ0 := hide hz0
  have HZ1 := hide hz1
  have HZ2 := hide hz2
  have hlen := hv.len
  have HV := hide hv
  obtain ⟨A, c, rfl, _, hA⟩ := id hv0.obs
  have HA := hide hA
  obtain ⟨wo, hwo⟩ : ∃ wo, w.alloc (.cells #[.slice A l.length c] 24) = wo := ⟨_, rfl⟩
  have HBO : Hid (Below w.heap.size w wo) := by rw [← hwo]; exact (Below.refl _ _).alloc (Nat.le_refl _) _
  have HB0 := hide (bto hb0 HBO.out)
  have HF0 := hide hb0
  have hbl : wo.heap[w.heap.size]? = some (.cells #[.slice A l.length c] 24 (0, 0)) := by rw [← hwo]; exact heap_alloc_new _ _
  have HBL := hide hbl
  have HVC := hide (fun W (h : Below wo.heap.size wo W) => rvalid12_any l _ W (HV.out.below (bto HBO.out h)))
  clear hA hv hv0 hb0 hbl hi hz0 hz1 hz2
  cases hm : mapB l with
  | false =>
    have HL : Hid (ofL l K = []) := by unfold ofL; rw [hm]; exact hide rfl
    rw [hm] at HVC
    clear hm
    go_enter Try.func37, Try.ntmps37
    go_wp2_with fail
    clear hwo
    go_loopw [5, 6] (fun out i wr => out = .slice none 0 0 ∧ i = .int .i64 0 ∧ Hid (Below wo.heap.size wo wr)) (fun _ _ _ => 0)
    case atStart => exact ⟨rfl, rfl, Below.refl _ _⟩
    case round =>
      obtain ⟨rfl, rfl, hb⟩ := hrel
      have e0 := (blk1 (blkB hb.out HBL.out)).1
      have HX := hide (HVC.out wr hb.out)
      have HB := hide hb.out
      clear hb
      go_wp2_with fail
      refine HX.out.mono ?_
      rintro _ w2 ⟨rfl, b2⟩
      have HB2 := hide (bto HBO.out (bto HB.out b2))
      clear b2 e0
      go_wp2_with fail
      go_ret
      exact ⟨_, [], rfl, by rw [HL.out]; exact ⟨rfl, World.ownsRow_nil _ _ _ _, (fun _ h => nomatch h), HF0.out, HB2.out⟩⟩
  | true =>
    have HL : Hid (ofL l K = l.filter (sndB l K)) := by unfold ofL; rw [hm]; exact hide rfl
    have HM := hide hm
    rw [hm] at HVC
    clear hm
    go_enter Try.func37, Try.ntmps37
    go_wp2_with fail
    clear hwo
    go_loopw [5, 6] (fun out i wr => ∃ (k : Nat) (R : List OV) (Ao : Option Addr) (co : Nat), k ≤ l.length ∧ i = .int .i64 k ∧ out = .slice Ao R.length co ∧ Hid (OwI wo R (.slice Ao R.length co) wr) ∧ Hid (R.map OV.o = (l.take k).filter (sndB l K)) ∧ Hid (∀ x ∈ R, StS w0 x.rv x.o.refs ∧ TgS w0 x.tv x.o.tags)) (fun _ i _ => l.length - (intOf i).toNat)
    case atStart => exact ⟨0, [], none, 0, Nat.zero_le _, rfl, rfl, OwI.nil (Below.refl _ _), rfl, (fun _ h => nomatch h)⟩
    case round =>
      obtain ⟨k, R, Ao, co, hk, rfl, rfl, how, hR, HOLD⟩ := hrel
      have e0 := (blk1 (blkB how.out.below HBL.out)).1
      have HX := hide (HVC.out wr how.out.below)
      have HOW := hide how.out
      clear how
      by_cases hlt : k < l.length
      · obtain ⟨g, o, rfl, hg, hp⟩ := HA.out.resolve_left (by intro e; rw [e] at hlt; simp at hlt)
        have hkt := List.getElem?_eq_getElem hlt
        obtain ⟨rv, tv, hoa⟩ := hp k _ hkt
        have hmem := List.getElem_mem hlt
        have hnx := snd_next l K hkt
        generalize l[k] = t at *
        obtain ⟨Ar, cr, hrv, _⟩ := id hoa.refs
        obtain ⟨At, ct, htv, _⟩ := id hoa.tags
        subst hrv
        subst htv
        have HOA := hide hoa
        have bq : ∀ u : Ows wo R (.slice Ao R.length co), ObAt u.w g (o + k * 6) t (.slice Ar t.refs.length cr) (.slice At t.tags.length ct) := fun u => HOA.out.below hg (bto HB0.out u.2.below)
        have X0 := fun u : Ows wo R (.slice Ao R.length co) => (bq u).c0
        have X1 := fun u : Ows wo R (.slice Ao R.length co) => (bq u).c1
        have X2 := fun u : Ows wo R (.slice Ao R.length co) => (bq u).c2
        have X3 := fun u : Ows wo R (.slice Ao R.length co) => (bq u).c3
        have X4 := fun u : Ows wo R (.slice Ao R.length co) => (bq u).c4
        have X5 := fun u : Ows wo R (.slice Ao R.length co) => (bq u).c5
        have E0 : ∀ u : Ows wo R (.slice Ao R.length co), u.w.cell? ⟨w.heap.size, 0, none⟩ = some (.slice (some ⟨g, o, none⟩) l.length c) := fun u => (blk1 (blkB u.2.below HBL.out)).1
        have SN := hide (fun u : Ows wo R (.slice Ao R.length co) => sound13_any l _ HM.out _ t _ _ u.w (Nat.le_refl _) hmem (HV.out.below (bto HBO.out u.2.below)) (hoa.refs.below (bto HB0.out u.2.below)) (hoa.tags.below (bto HB0.out u.2.below)))
        have HSR := hide (hoa.refs.below HB0.out)
        have HST := hide (hoa.tags.below HB0.out)
        unfold obV at SN
        have hRL : R.length ≤ k := by
          have := congrArg List.length hR.out
          rw [List.length_map] at this
          have h2 := List.length_filter_le (sndB l K) (l.take k)
          rw [List.length_take] at h2
          omega
        have YN : Nonempty (Ows wo R (.slice Ao R.length co)) := ⟨⟨_, HOW.out⟩⟩
        have k0 : (0 : Int) ≤ k := by omega
        have k1 : (k : Int) < l.length := by omega
        have HKL := hide hlt
        have HMS := hide (show l.length - (k + 1) < l.length - k from by omega)
        have HRL := hide hRL
        have HNX := hide hnx
        have HR0 := hide hR.out
        clear hnx hlt hkt hoa hp hmem bq hR hRL
        by_cases hkk : t.kind = K
        · obtain ⟨sb, hsb⟩ := bool_of (b := soundW l t)
          have HSB : Hid (sndB l K t = sb) := by unfold sndB; rw [decide_eq_true hkk, hsb]; exact hide rfl
          rw [hsb] at SN
          have hkq : (t.kind == K) = true := by simpa using hkk
          subst hkk
          clear hsb
          cases sb with
          | false =>
            have HR1 : Hid (R.map OV.o = (l.take (k + 1)).filter (sndB l t.kind)) := by
              rw [HNX.out, if_neg (by rw [HSB.out]; simp), List.append_nil]; exact HR0
            go_wp2_with fail
            refine HX.out.mono ?_
            rintro _ w2 ⟨rfl, b2⟩
            have hod := (HOW.out.lift b2).lift (below_drew w2)
            have e02 := (blk1 (blkB (HOW.out.lift b2).below HBL.out)).1
            clear b2 e0
            go_wp2_with fail
            refine wp_region_quietW (J := Ows wo R (.slice Ao R.length co)) Ows.w ⟨_, hod⟩ rfl (by kernel_rfl) (by kernel_rfl) ?_
            repeat (go_big_quiet_step (((with_reducible refine (SN.out _).mono ?_); rintro _ w8 ⟨rfl, b8⟩; exact ⟨rfl, Ows.go _ b8⟩)))
            refine wpQuiet_nil ?_
            rintro w9 ⟨u, rfl⟩
            have HO9 := hide u.2
            go_wp2_with fail
            refine ⟨⟨k + 1, R, Ao, co, HKL.out, by go_num, rfl, HO9, HR1, HOLD⟩, ?_⟩
            have := HMS.out
            simp [intOf]; omega
          | true =>
            go_wp2_with fail
            refine HX.out.mono ?_
            rintro _ w2 ⟨rfl, b2⟩
            have hod := (HOW.out.lift b2).lift (below_drew w2)
            have e02 := (blk1 (blkB (HOW.out.lift b2).below HBL.out)).1
            clear b2 e0
            go_wp2_with fail
            refine wp_region_quietW (J := Ows wo R (.slice Ao R.length co)) Ows.w ⟨_, hod⟩ rfl (by kernel_rfl) (by kernel_rfl) ?_
            repeat (go_big_quiet_step (((with_reducible refine (SN.out _).mono ?_); rintro _ w8 ⟨rfl, b8⟩; exact ⟨rfl, Ows.go _ b8⟩)))
            refine wpQuiet_nil ?_
            rintro w9 ⟨u, rfl⟩
            have HO9 := hide u.2
            have z0 := X0 u
            have z1 := X1 u
            have z2 := X2 u
            have z3 := X3 u
            have z4 := X4 u
            have z5 := X5 u
            have ze := E0 u
            clear X0 X1 X2 X3 X4 X5 E0 SN hod e02
            obtain ⟨w8, hw8⟩ : ∃ w8, u.w = w8 := ⟨_, rfl⟩
            have HO8 : Hid (OwI wo R (.slice Ao R.length co) w8) := by rw [← hw8]; exact HO9
            rw [hw8] at z0 z1 z2 z3 z4 z5 ze
            rw [hw8]
            clear HO9 hw8 u
            obtain ⟨wx, hwx⟩ : ∃ wx, w8.alloc (.cells (#[.string t.id, .int .i64 t.kind, .int .i64 t.x, .int .i64 t.y, .slice Ar t.refs.length cr, .slice At t.tags.length ct] : Array Value) 42) = wx := ⟨_, rfl⟩
            have hbx8 : Below w8.heap.size w8 wx := by rw [← hwx]; exact (Below.refl _ _).alloc (Nat.le_refl _) _
            have HBX := hide (HO8.out.lift hbx8)
            have HNC := hide (show ∀ j u, ((⟨t, .slice Ar t.refs.length cr, .slice At t.tags.length ct⟩ : OV)).cells[j]? = some u → wx.cell? (Addr.add ⟨w8.heap.size, 0, none⟩ j) = some u from fun j u hj => by rw [← hwx]; exact new_cells w8 ((⟨t, .slice Ar t.refs.length cr, .slice At t.tags.length ct⟩ : OV)).cells 42 j u hj)
            have HSZ := hide (show wx.heap.size = w8.heap.size + 1 from by rw [← hwx]; simp)
            clear hbx8
            go_wp2_with (at_builtin; go_must (refine wpList_append_lies _ rfl (.tmp 35) (.tmp 41) 22 rfl wo.heap.size 42 i0 (.agg #[.string ⟨#[]⟩, .int .i64 0, .int .i64 0, .int .i64 0, .slice none 0 0, .slice none 0 0]) 6 88 Try.underlying22 HI.out HZ0.out HZ1.out HZ2.out rfl (by decide) (.slice Ao R.length co) R.length (cellsX R) rfl ?c0 ⟨w8.heap.size, 0, none⟩ 1 1 ((⟨t, .slice Ar t.refs.length cr, .slice At t.tags.length ct⟩ : OV)).cells rfl rfl ?c1 ?c2 (by decide) ?c3 ?c4 ?c5 (w8.heap.size + 1) ?c6 ?_))
            case c0 => exact HBX.out.row
            case c1 => exact HNC.out
            case c2 => intro u hu; simp [OV.cells] at hu; rcases hu with rfl | rfl | rfl | rfl | rfl | rfl <;> rfl
            case c3 => unfold maxLen; have := HRL.out; have := HKL.out; omega
            case c4 => have := HRL.out; have := HKL.out; omega
            case c5 => exact HBX.out.below.size
            case c6 => exact HSZ.out
            intro g9 cap w9 hown9 hgrow9 hat9 _
            have hbo9 := OwI.more (x := (⟨t, .slice Ar t.refs.length cr, .slice At t.tags.length ct⟩ : OV)) HBX.out HSR.out HST.out hown9 hgrow9
            have HB9 := hide hbo9
            have HR1 : Hid ((R ++ [(⟨t, .slice Ar t.refs.length cr, .slice At t.tags.length ct⟩ : OV)]).map OV.o = (l.take (k + 1)).filter (sndB l t.kind)) := by
              rw [HNX.out, if_pos HSB.out, List.map_append, HR0.out]; exact hide rfl
            have HOLD2 : Hid (∀ x ∈ R ++ [(⟨t, .slice Ar t.refs.length cr, .slice At t.tags.length ct⟩ : OV)], StS w0 x.rv x.o.refs ∧ TgS w0 x.tv x.o.tags) := hide (fun x hx => by
              rcases List.mem_append.1 hx with hx | hx
              · exact HOLD.out x hx
              · rw [List.mem_singleton] at hx; subst hx; exact ⟨HOA.out.refs, HOA.out.tags⟩)
            clear hbo9 hown9 hgrow9 hat9 hwx z0 z1 z2 z3 z4 z5 ze
            go_wp2_with fail
            refine ⟨⟨k + 1, R ++ [(⟨t, .slice Ar t.refs.length cr, .slice At t.tags.length ct⟩ : OV)], some ⟨g9, 0, none⟩, cap, HKL.out, by go_num, by simp, HB9, HR1, HOLD2⟩, ?_⟩
            have := HMS.out
            simp [intOf]; omega
        · have HSB : Hid (sndB l K t = false) := by unfold sndB; rw [decide_eq_false hkk]; exact hide rfl
          have hkq : (t.kind == K) = false := by simpa using hkk
          have HR1 : Hid (R.map OV.o = (l.take (k + 1)).filter (sndB l K)) := by
            rw [HNX.out, if_neg (by rw [HSB.out]; simp), List.append_nil]; exact HR0
          go_wp2_with fail
          refine HX.out.mono ?_
          rintro _ w2 ⟨rfl, b2⟩
          have hod := (HOW.out.lift b2).lift (below_drew w2)
          have e02 := (blk1 (blkB (HOW.out.lift b2).below HBL.out)).1
          clear b2 e0
          go_wp2_with fail
          refine wp_region_quietW (J := Ows wo R (.slice Ao R.length co)) Ows.w ⟨_, hod⟩ rfl (by kernel_rfl) (by kernel_rfl) ?_
          repeat (go_big_quiet_step (fail))
          refine wpQuiet_nil ?_
          rintro w9 ⟨u, rfl⟩
          have HO9 := hide u.2
          go_wp2_with fail
          refine ⟨⟨k + 1, R, Ao, co, HKL.out, by go_num, rfl, HO9, HR1, HOLD⟩, ?_⟩
          have := HMS.out
          simp [intOf]; omega
      · obtain rfl : k = l.length := by omega
        have hR2 := hR.out
        rw [List.take_length, ← HL.out] at hR2
        have HR2 := hide hR2
        have k1 : ¬ (l.length : Int) < l.length := by omega
        clear hR hR2 hlt
        go_wp2_with fail
        refine HX.out.mono ?_
        rintro _ w2 ⟨rfl, b2⟩
        have HO2 := hide (HOW.out.lift b2)
        have e02 := (blk1 (blkB HO2.out.below HBL.out)).1
        clear b2 e0
        go_wp2_with fail
        go_ret
        exact ⟨_, R, rfl, by rw [← HR2.out]; exact ⟨rfl, own_mono HO2.out.row HBO.out.size, HOLD.out, HF0.out, bto HBO.out HO2.out.below⟩⟩
theorem of16_any (l : List Ob) (v : Value) (K : Int) (w : World) (hv : MapI w v l) :
    Calls Try.prog 37 #[.agg #[v], .int .i64 K] w fun e w' => ∃ rv, e = .returned rv ∧ ObsS w' rv (ofL l K) ∧ Below w.heap.size w w' :=
  (of16_own l v K w w hv (Below.refl _ _)).mono fun _ _ ⟨rv, _, h1, h2⟩ => ⟨rv, h1, h2.obs, h2.below⟩
end Go.Proofs.Ytpiocaomlifljaa
