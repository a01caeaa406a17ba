/-
  The reference's Check, walked.
-/
import Derived.Test.YtpiocaomlifljaaNetMh
import Derived.Test.YtpiocaomlifljaaNetMm
namespace Go.Proofs.Ytpiocaomlifljaa
open Go.RowKit Go.Proofs.PlLex Go.Proofs.PlNet Go.Proofs.PlMap

def Cks (w : World) (R : List Vr) (v : Value) : Type := {W : World // CkI w R [] v (.slice none 0 0) W}
def Cks.w {w : World} {R : List Vr} {v : Value} (u : Cks w R v) : World := u.1
theorem Cks.go {w : World} {R : List Vr} {v : Value} (u : Cks w R v) {w8 : World} (hb : Below u.w.heap.size u.w w8) : ∃ u' : Cks w R v, w8 = u'.w := ⟨⟨w8, u.2.lift hb⟩, rfl⟩
/-- Violations and objects, each in a row of its own. -/
structure TwV (w0 w2 wA : World) (T : List Vr) (vT : Value) (X : List OV) (vX : Value) (W : World) : Prop where
  ck : CkI w2 T [] vT (.slice none 0 0) W
  row : W.ownsRow wA.heap.size 42 6 vX X.length (cellsX X)
  ne : ∀ b, vT.ownBlock = some b → vX.ownBlock ≠ some b
  b0 : Below w0.heap.size w0 W
  old : ∀ x ∈ X, StS w0 x.rv x.o.refs ∧ TgS w0 x.tv x.o.tags
theorem TwV.lift {w0 w2 wA : World} {T : List Vr} {vT : Value} {X : List OV} {vX : Value} {W W' : World} (h : TwV w0 w2 wA T vT X vX W) (hb : Below W.heap.size W W') : TwV w0 w2 wA T vT X vX W' :=
  ⟨h.ck.lift hb, own_below h.row hb, h.ne, bto h.b0 hb, h.old⟩
theorem TwV.at {w0 w2 wA : World} {T : List Vr} {vT : Value} {X : List OV} {g n c : Nat} {W : World} (h : TwV w0 w2 wA T vT X (.slice (some ⟨g, 0, none⟩) n c) W) {i : Nat} {x : OV} (hi : X[i]? = some x) : ObAt W g (i * 6) x.o x.rv x.tv := by
  have hm := List.mem_of_getElem? hi
  have key : ∀ j u, x.cells[j]? = some u → W.cell? ⟨g, i * 6 + j, none⟩ = some u := by
    intro j u hj
    have := h.row.cells (g := g) rfl _ u (cellsX_at X i x hi j u hj)
    have e : (⟨g, 0, none⟩ : Addr).add (i * 6 + j) = ⟨g, i * 6 + j, none⟩ := by simp only [Addr.add, Nat.zero_add]; split <;> simp_all
    rw [← e]
    exact this
  exact ⟨key 0 _ rfl, key 1 _ rfl, key 2 _ rfl, key 3 _ rfl, key 4 _ rfl, key 5 _ rfl, (h.old x hm).1.below h.b0, (h.old x hm).2.below h.b0⟩
theorem TwV.more {w0 w2 wA : World} {T : List Vr} {vT : Value} {X : List OV} {vX : Value} {W w' : World} {k : Int} {id : ByteArray} {b g cap : Nat} (h : TwV w0 w2 wA T vT X vX W) (h02 : w0.heap.size ≤ w2.heap.size) (hid : W.heap[b]? = some (.cells #[.string id] 9 (0, 0)))
    (ho : w'.ownsRow w2.heap.size 58 3 (.slice (some ⟨g, 0, none⟩) (T.length + 1) cap) (T.length + 1) (cellsV T ++ (Vr.mk k id b).cells)) (hg : W.grownBy w' vT.ownBlock) (hat : vT.ownBlock = some g ∨ g = W.heap.size) :
    TwV w0 w2 wA (T ++ [⟨k, id, b⟩]) (.slice (some ⟨g, 0, none⟩) (T ++ [(⟨k, id, b⟩ : Vr)]).length cap) X vX w' := by
  refine ⟨h.ck.more hid ho hg hat, own_kept h.row hg (fun b h1 h2 => h.ne b h2 h1), fun b' h1 h2 => ?_, ?_, h.old⟩
  · have e : g = b' := by simpa [Value.ownBlock] using h1
    subst e
    rcases hat with hat | hat
    · exact h.ne g hat h2
    · obtain ⟨_, cur, hc⟩ := own_block h.row h2
      have := lt_of_block hc
      omega
  · exact h.b0.grown hg h.b0.size (fun k hk => Nat.le_trans h02 (own_block h.ck.rr hk).1)
def Tvs (w0 w2 wA : World) (T : List Vr) (vT : Value) (X : List OV) (vX : Value) : Type := {W : World // TwV w0 w2 wA T vT X vX W}
def Tvs.w {w0 w2 wA : World} {T : List Vr} {vT : Value} {X : List OV} {vX : Value} (u : Tvs w0 w2 wA T vT X vX) : World := u.1
theorem Tvs.go {w0 w2 wA : World} {T : List Vr} {vT : Value} {X : List OV} {vX : Value} (u : Tvs w0 w2 wA T vT X vX) {w8 : World} (hb : Below u.w.heap.size u.w w8) : ∃ u' : Tvs w0 w2 wA T vT X vX, w8 = u'.w := ⟨⟨w8, u.2.lift hb⟩, rfl⟩
/-- The violations of a kind among objects. -/
def vioL (K : Int) (bad : Ob → Bool) (L : List Ob) : List (Int × BA) := (L.filter bad).map (fun o => (K, o.id))
theorem vio_next (K : Int) (bad : Ob → Bool) {L : List Ob} {k : Nat} {t : Ob} (h : L[k]? = some t) : vioL K bad (L.take (k + 1)) = vioL K bad (L.take k) ++ (if bad t then [(K, t.id)] else []) := by
  unfold vioL
  rw [List.take_add_one, h, List.filter_append, List.map_append]
  congr 1
  simp only [Option.toList_some, List.filter_cons, List.filter_nil]
  split <;> rfl
def nconn (l : List Ob) (o : Ob) : Bool := !connB l o.refs
def nmeet (l : List Ob) (o : Ob) : Bool := !meetsB l o
theorem vio_check (l : List Ob) : vioL 5 (nconn l) (ofL l 4) ++ vioL 6 (nmeet l) (ofL l 5) = if mapB l then checkL l else [] := by
  unfold ofL
  split
  · unfold checkL vioL
    rw [List.filter_filter, List.filter_filter]
    congr 1
    · congr 1
      apply List.filter_congr
      intro o _
      unfold badRoute sndB nconn
      by_cases h : o.kind = 4
      · rw [kind4_sound h, Bool.and_comm]
      · simp [h]
    · congr 1
      apply List.filter_congr
      intro o _
      unfold badTurn sndB nmeet
      by_cases h : o.kind = 5
      · rw [kind5_sound h, Bool.and_comm]
      · simp [h]
  · rfl
theorem vioL_len (K : Int) (bad : Ob → Bool) (L : List Ob) : (vioL K bad L).length ≤ L.length := by
  unfold vioL
  rw [List.length_map]
  exact List.length_filter_le _ _
set_option maxRecDepth 100000 in
set_option maxHeartbeats 16000000 in
theorem check16_any (l : List Ob) (v : Value) (w : World) (hv : MapI w v l) (hw : MapW w v l) :
    Calls Try.prog 14 #[.agg #[v]] w fun e w' => ∃ rv, e = .returned rv ∧ ViS w' rv (if mapB l then checkL l else []) ∧ Below w.heap.size w w' := by
  rw [← vio_check]
  obtain ⟨i0, hi, hz0, hz1, hz2⟩ := info_parts info_vi
  have HI := hide hi
  have HZ0 := hide hz0
  have HZ1 := hide hz1
  have HZ2 := hide hz2
  have hlen := hv.len
  have HV := hide hv
  have HW := hide hw
  obtain ⟨A, c, rfl, _, _⟩ := id hv.obs
  obtain ⟨wo, hwo⟩ : ∃ wo, w.alloc (.cells #[.slice A l.length c] 24) = wo := ⟨_, rfl⟩
  have HBO : Hid (Below w.heap.size w wo) := by rw [← hwo]; exact (Below.refl _ _).alloc (Nat.le_refl _) _
  have hbl : wo.heap[w.heap.size]? = some (.cells #[.slice A l.length c] 24 (0, 0)) := by rw [← hwo]; exact heap_alloc_new _ _
  have HBL := hide hbl
  have dm := (blk1 hbl).1
  have HO4 := hide (of16_any l _ 4 wo (HV.out.below HBO.out))
  have h4 := ofL_len l 4
  have h5 := ofL_len l 5
  have HS4 := hide (fun (o : Ob) (ho : o ∈ ofL l 4) => ofL_sub ho)
  have HS5 := hide (fun (o : Ob) (ho : o ∈ ofL l 5) => ofL_sub ho)
  have HO5 := hide (fun W (hb : Below w.heap.size w W) => of16_own l _ 5 w W HV.out hb)
  generalize ofL l 4 = L4 at *
  generalize ofL l 5 = L5 at *
  clear hv hw hbl hi hz0 hz1 hz2
  go_enter Try.func14, Try.ntmps14
  go_wp2_with fail
  refine HO4.out.mono ?_
  rintro _ w2 ⟨rv4, rfl, hob4, b2⟩
  obtain ⟨A4, c4, rfl, _, hA4⟩ := hob4
  have HA4 := hide hA4
  have HB2 := hide b2
  have HCK := hide (CkI.nil (Below.refl w2.heap.size w2))
  clear hwo dm HO4 b2 hA4
  go_wp2_with fail
  go_loopw [3, 5] (fun out i wr => ∃ (k : Nat) (R : List Vr) (Ao : Option Addr) (co : Nat), k ≤ L4.length ∧ i = .int .i64 k ∧ out = .slice Ao R.length co ∧ Hid (CkI w2 R [] (.slice Ao R.length co) (.slice none 0 0) wr) ∧ Hid (R.map Vr.pair = vioL 5 (nconn l) (L4.take k))) (fun _ i _ => L4.length - (intOf i).toNat)
  case atStart => exact ⟨0, [], none, 0, Nat.zero_le _, rfl, rfl, HCK, rfl⟩
  case round =>
    obtain ⟨k, R, Ao, co, hk, rfl, rfl, hck, hR⟩ := hrel
    have hRl : R.length ≤ k := by
      have := congrArg List.length hR.out
      rw [List.length_map] at this
      have h2 := vioL_len 5 (nconn l) (L4.take k)
      rw [List.length_take] at h2
      omega
    by_cases hlt : k < L4.length
    · obtain ⟨g, o, rfl, hg, hp⟩ := HA4.out.resolve_left (by intro e; rw [e] at hlt; simp at hlt)
      have hkt := List.getElem?_eq_getElem hlt
      obtain ⟨rv, tv, hoa⟩ := hp k _ hkt
      obtain ⟨hmb, hml, hk4, hsw⟩ := HS4.out _ (List.getElem_mem hlt)
      have hnx := vio_next 5 (nconn l) hkt
      generalize L4[k] = t at *
      have hsb : soundB l t = true := by rw [← kind4_sound hk4]; exact hsw
      obtain ⟨Ar, cr, hrv, _⟩ := id hoa.refs
      obtain ⟨At, ct, htv, _⟩ := id hoa.tags
      subst hrv
      subst htv
      have HOA := hide hoa
      have bq : ∀ u : Cks w2 R (.slice Ao R.length co), ObAt u.w g (o + k * 6) t (.slice Ar t.refs.length cr) (.slice At t.tags.length ct) := fun u => HOA.out.below hg u.2.below
      have X0 := fun u : Cks w2 R (.slice Ao R.length co) => (bq u).c0
      have X1 := fun u : Cks w2 R (.slice Ao R.length co) => (bq u).c1
      have X2 := fun u : Cks w2 R (.slice Ao R.length co) => (bq u).c2
      have X3 := fun u : Cks w2 R (.slice Ao R.length co) => (bq u).c3
      have X4 := fun u : Cks w2 R (.slice Ao R.length co) => (bq u).c4
      have X5 := fun u : Cks w2 R (.slice Ao R.length co) => (bq u).c5
      have E0 : ∀ u : Cks w2 R (.slice Ao R.length co), u.w.cell? ⟨w.heap.size, 0, none⟩ = some (.slice A l.length c) := fun u => (blk1 (blkB (bto HB2.out u.2.below) HBL.out)).1
      have CN := hide (fun u : Cks w2 R (.slice Ao R.length co) => connected16_any l _ hmb t _ _ u.w hk4 hml hsb (HV.out.below (bto HBO.out (bto HB2.out u.2.below))) (HW.out.below (bto HBO.out (bto HB2.out u.2.below))) (hoa.refs.below u.2.below) (hoa.tags.below u.2.below))
      unfold obV at CN
      have YN : Nonempty (Cks w2 R (.slice Ao R.length co)) := ⟨⟨_, hck.out⟩⟩
      have hcd := hck.out.lift (below_drew wr)
      have k0 : (0 : Int) ≤ k := by omega
      have k1 : (k : Int) < L4.length := by omega
      have HKL := hide hlt
      have HMS := hide (show L4.length - (k + 1) < L4.length - k from by omega)
      obtain ⟨q, hq⟩ := bool_of (b := connB l t.refs)
      have HQ : Hid (nconn l t = !q) := by unfold nconn; rw [hq]; exact hide rfl
      rw [hq] at CN
      have HNX := hide hnx
      have HR0 := hide hR.out
      clear hnx hlt hkt hoa hp hml hmb hk4 hsw hsb bq hR hck hq
      cases q with
      | true =>
        have HR1 : Hid (R.map Vr.pair = vioL 5 (nconn l) (L4.take (k + 1))) := by
          rw [HNX.out, HQ.out, HR0.out]; exact hide (by simp)
        go_wp2_with fail
        refine wp_region_quietW (J := Cks w2 R (.slice Ao R.length co)) Cks.w ⟨_, hcd⟩ rfl (by kernel_rfl) (by kernel_rfl) ?_
        repeat (go_big_quiet_step (((with_reducible refine (CN.out _).mono ?_); rintro _ w8 ⟨rfl, b8⟩; exact ⟨rfl, Cks.go _ b8⟩)))
        refine wpQuiet_nil ?_
        rintro w9 ⟨u, rfl⟩
        have HC9 := hide u.2
        go_wp2_with fail
        refine ⟨⟨k + 1, R, Ao, co, HKL.out, by go_num, rfl, HC9, HR1⟩, ?_⟩
        have := HMS.out
        simp [intOf]; omega
      | false =>
        go_wp2_with fail
        refine wp_region_quietW (J := Cks w2 R (.slice Ao R.length co)) Cks.w ⟨_, hcd⟩ rfl (by kernel_rfl) (by kernel_rfl) ?_
        repeat (go_big_quiet_step (((with_reducible refine (CN.out _).mono ?_); rintro _ w8 ⟨rfl, b8⟩; exact ⟨rfl, Cks.go _ b8⟩)))
        refine wpQuiet_nil ?_
        rintro w9 ⟨u, rfl⟩
        have z0 := X0 u
        obtain ⟨wf, hwf⟩ : ∃ wf, u.w = wf := ⟨_, rfl⟩
        have HCK2 : Hid (CkI w2 R [] (.slice Ao R.length co) (.slice none 0 0) wf) := by rw [← hwf]; exact hide u.2
        rw [hwf] at z0
        rw [hwf]
        clear X0 X1 X2 X3 X4 X5 E0 CN hcd hwf u
        go_wp2_with (at_builtin; go_must (refine wpList_append_lies _ rfl (.tmp 22) (.tmp 30) 28 rfl w2.heap.size 58 i0 (.agg #[.string ⟨#[]⟩, .int .i64 0, .slice none 0 0]) 3 48 Try.underlying28 HI.out HZ0.out HZ1.out HZ2.out rfl (by decide) (.slice Ao R.length co) R.length (cellsV R) rfl ?c0 ⟨wf.heap.size + 1, 0, none⟩ 1 1 (Vr.mk 5 t.id wf.heap.size).cells rfl rfl ?c1 ?c2 (by decide) ?c3 ?c4 ?c5 (wf.heap.size + 2) ?c6 ?_))
        case c0 => exact own_below ((HCK2.out)).rr ((Below.refl _ _).alloc (Nat.le_refl _) _ |>.alloc (by simp) _)
        case c1 =>
          intro j u hj
          have := new_cells (wf.alloc (.cells #[.string t.id] 9)) (Vr.mk 5 t.id wf.heap.size).cells 58 j u hj
          simp only [World.size_alloc] at this
          exact this
        case c2 => intro u hu; simp [Vr.cells] at hu; rcases hu with rfl | rfl | rfl <;> rfl
        case c3 => unfold maxLen; have := HKL.out; omega
        case c4 => have := HKL.out; omega
        case c5 => have := HCK2.out.below.size; simp; omega
        case c6 => simp
        intro g9 cap w9 hown9 hgrow9 hat9 _
        have hidb : ((wf.alloc (.cells #[.string t.id] 9)).alloc (.cells #[.string ⟨#[]⟩, .int .i64 5, .slice (some ⟨wf.heap.size, 0, none⟩) 1 1] 58)).heap[wf.heap.size]? = some (.cells #[.string t.id] 9 (0, 0)) := blkB ((Below.refl _ _).alloc (Nat.le_refl _) _) (heap_alloc_new _ _)
        have hbb : Below wf.heap.size wf ((wf.alloc (.cells #[.string t.id] 9)).alloc (.cells #[.string ⟨#[]⟩, .int .i64 5, .slice (some ⟨wf.heap.size, 0, none⟩) 1 1] 58)) := (Below.refl _ _).alloc (Nat.le_refl _) _ |>.alloc (by simp) _
        have hck9 := ((HCK2.out).lift hbb).more (k := 5) (id := t.id) (b := wf.heap.size) hidb hown9 hgrow9 (by simpa using hat9)
        have HCK9 := hide hck9
        have HR1 : Hid ((R ++ [(⟨5, t.id, wf.heap.size⟩ : Vr)]).map Vr.pair = vioL 5 (nconn l) (L4.take (k + 1))) := by
          rw [HNX.out, HQ.out, List.map_append, HR0.out]; exact hide rfl
        have hln : Value.slice (some ⟨g9, 0, none⟩) (R.length + 1) cap = .slice (some ⟨g9, 0, none⟩) (R ++ [(⟨5, t.id, wf.heap.size⟩ : Vr)]).length cap := by simp
        have HLN := hide hln
        clear hown9 hgrow9 hat9 hidb hbb hck9 hln HCK2 z0
        go_wp2_with fail
        refine ⟨⟨k + 1, R ++ [⟨5, t.id, wf.heap.size⟩], some ⟨g9, 0, none⟩, cap, HKL.out, by go_num, HLN.out, HCK9, HR1⟩, ?_⟩
        have := HMS.out
        simp [intOf]; omega
    · obtain rfl : k = L4.length := by omega
      have hR2 := hR.out
      rw [List.take_length] at hR2
      have HR4 := hide hR2
      have HCK4 := hide hck.out
      have e0 := (blk1 (blkB (bto HB2.out hck.out.below) HBL.out)).1
      have HO5 := hide (HO5.out wr (bto HBO.out (bto HB2.out hck.out.below)))
      have HWA := hide (bto HBO.out (bto HB2.out hck.out.below))
      clear hR hR2 hlt hck hk HCK
      go_wp2_with fail
      refine HO5.out.mono ?_
      rintro _ w5 ⟨rv5, X, rfl, how⟩
      generalize wr = wA at *
      obtain ⟨AX, cX, rfl⟩ := own_slice how.row
      have HTV : Hid (TwV w w2 wA R (.slice Ao R.length co) X (.slice AX X.length cX) w5) := hide ⟨HCK4.out.lift how.below, how.row, fun b h1 h2 => by
        obtain ⟨_, cur, hc⟩ := own_block HCK4.out.rr h1
        have := lt_of_block hc
        have := (own_block how.row h2).1
        omega, bto HWA.out how.below, how.old⟩
      have HEQ := hide how.eq
      have hXL : X.length ≤ l.length := by have := congrArg List.length how.eq; rw [List.length_map] at this; omega
      clear e0 HO5 how HCK4
      go_wp2_with fail
      go_loopw [3, 6] (fun out i wr => ∃ (k : Nat) (T : List Vr) (Ao : Option Addr) (co : Nat), k ≤ X.length ∧ i = .int .i64 k ∧ out = .slice Ao T.length co ∧ Hid (TwV w w2 wA T (.slice Ao T.length co) X (.slice AX X.length cX) wr) ∧ Hid (T.length ≤ R.length + k) ∧ Hid (T.map Vr.pair = vioL 5 (nconn l) L4 ++ vioL 6 (nmeet l) (L5.take k))) (fun _ i _ => X.length - (intOf i).toNat)
      case atStart => exact ⟨0, R, Ao, co, Nat.zero_le _, rfl, rfl, HTV, hide (Nat.le_refl _), hide (by rw [HR4.out]; simp [vioL])⟩
      case round =>
        obtain ⟨k, T, Ao, co, hk, rfl, rfl, htv, hTl, hT⟩ := hrel
        by_cases hlt : k < X.length
        · obtain ⟨g, hAX⟩ : ∃ g, AX = some ⟨g, 0, none⟩ := by
            rcases htv.out.row.2 with ⟨_, hn⟩ | ⟨g, cap, cur, hv, _⟩
            · omega
            · cases hv; exact ⟨g, rfl⟩
          subst hAX
          have hkx := List.getElem?_eq_getElem hlt
          generalize X[k] = x at *
          have hkt : L5[k]? = some x.o := by rw [← HEQ.out, List.getElem?_map, hkx]; rfl
          obtain ⟨hmb, hml, hk5, hsw⟩ := HS5.out _ (List.mem_of_getElem? hkt)
          have hnx := vio_next 6 (nmeet l) hkt
          have hsb : soundB l x.o = true := by rw [← kind5_sound hk5]; exact hsw
          obtain ⟨t, rv, tv⟩ := x
          simp only at hkt hml hk5 hsw hsb hnx
          have hold := htv.out.old _ (List.mem_of_getElem? hkx)
          simp only at hold
          obtain ⟨Ar, cr, hrv, _⟩ := id hold.1
          obtain ⟨At, ct, htv2, _⟩ := id hold.2
          subst hrv
          subst htv2
          have bq : ∀ u : Tvs w w2 wA T (.slice Ao T.length co) X (.slice (some ⟨g, 0, none⟩) X.length cX), ObAt u.w g (k * 6) t (.slice Ar t.refs.length cr) (.slice At t.tags.length ct) := fun u => TwV.at u.2 hkx
          have X0 := fun u : Tvs w w2 wA T (.slice Ao T.length co) X (.slice (some ⟨g, 0, none⟩) X.length cX) => (bq u).c0
          have X1 := fun u : Tvs w w2 wA T (.slice Ao T.length co) X (.slice (some ⟨g, 0, none⟩) X.length cX) => (bq u).c1
          have X2 := fun u : Tvs w w2 wA T (.slice Ao T.length co) X (.slice (some ⟨g, 0, none⟩) X.length cX) => (bq u).c2
          have X3 := fun u : Tvs w w2 wA T (.slice Ao T.length co) X (.slice (some ⟨g, 0, none⟩) X.length cX) => (bq u).c3
          have X4 := fun u : Tvs w w2 wA T (.slice Ao T.length co) X (.slice (some ⟨g, 0, none⟩) X.length cX) => (bq u).c4
          have X5 := fun u : Tvs w w2 wA T (.slice Ao T.length co) X (.slice (some ⟨g, 0, none⟩) X.length cX) => (bq u).c5
          have E0 : ∀ u : Tvs w w2 wA T (.slice Ao T.length co) X (.slice (some ⟨g, 0, none⟩) X.length cX), u.w.cell? ⟨w.heap.size, 0, none⟩ = some (.slice A l.length c) := fun u => (blk1 (blkB (bto HB2.out u.2.ck.below) HBL.out)).1
          have CN := hide (fun u : Tvs w w2 wA T (.slice Ao T.length co) X (.slice (some ⟨g, 0, none⟩) X.length cX) => meets16_any l _ hmb t _ _ u.w hk5 hml hsb (HV.out.below u.2.b0) (HW.out.below u.2.b0) (bq u).refs (bq u).tags)
          unfold obV at CN
          have YN : Nonempty (Tvs w w2 wA T (.slice Ao T.length co) X (.slice (some ⟨g, 0, none⟩) X.length cX)) := ⟨⟨_, htv.out⟩⟩
          have hcd := htv.out.lift (below_drew wr)
          have k0 : (0 : Int) ≤ k := by omega
          have k1 : (k : Int) < X.length := by omega
          have HKL := hide hlt
          have HMS := hide (show X.length - (k + 1) < X.length - k from by omega)
          obtain ⟨q, hq⟩ := bool_of (b := meetsB l t)
          have HQ : Hid (nmeet l t = !q) := by unfold nmeet; rw [hq]; exact hide rfl
          rw [hq] at CN
          have HNX := hide hnx
          have HT0 := hide hT.out
          have HTL := hide hTl.out
          clear hnx hlt hkt hkx hold hml hmb hk5 hsw hsb bq hT hTl htv hq
          cases q with
          | true =>
            have HR1 : Hid (T.map Vr.pair = vioL 5 (nconn l) L4 ++ vioL 6 (nmeet l) (L5.take (k + 1))) := by
              rw [HNX.out, HQ.out, HT0.out]; exact hide (by simp)
            go_wp2_with fail
            refine wp_region_quietW (J := Tvs w w2 wA T (.slice Ao T.length co) X (.slice (some ⟨g, 0, none⟩) X.length cX)) Tvs.w ⟨_, hcd⟩ rfl (by kernel_rfl) (by kernel_rfl) ?_
            repeat (go_big_quiet_step (((with_reducible refine (CN.out _).mono ?_); rintro _ w8 ⟨rfl, b8⟩; exact ⟨rfl, Tvs.go _ b8⟩)))
            refine wpQuiet_nil ?_
            rintro w9 ⟨u, rfl⟩
            have HC9 := hide u.2
            go_wp2_with fail
            refine ⟨⟨k + 1, T, Ao, co, HKL.out, by go_num, rfl, HC9, hide (by have := HTL.out; omega), HR1⟩, ?_⟩
            have := HMS.out
            simp [intOf]; omega
          | false =>
            go_wp2_with fail
            refine wp_region_quietW (J := Tvs w w2 wA T (.slice Ao T.length co) X (.slice (some ⟨g, 0, none⟩) X.length cX)) Tvs.w ⟨_, hcd⟩ rfl (by kernel_rfl) (by kernel_rfl) ?_
            repeat (go_big_quiet_step (((with_reducible refine (CN.out _).mono ?_); rintro _ w8 ⟨rfl, b8⟩; exact ⟨rfl, Tvs.go _ b8⟩)))
            refine wpQuiet_nil ?_
            rintro w9 ⟨u, rfl⟩
            have z0 := X0 u
            obtain ⟨wf, hwf⟩ : ∃ wf, u.w = wf := ⟨_, rfl⟩
            have HTV2 : Hid (TwV w w2 wA T (.slice Ao T.length co) X (.slice (some ⟨g, 0, none⟩) X.length cX) wf) := by rw [← hwf]; exact hide u.2
            rw [hwf] at z0
            rw [hwf]
            clear X0 X1 X2 X3 X4 X5 E0 CN hcd hwf u
            go_wp2_with (at_builtin; go_must (refine wpList_append_lies _ rfl (.tmp 47) (.tmp 55) 28 rfl w2.heap.size 58 i0 (.agg #[.string ⟨#[]⟩, .int .i64 0, .slice none 0 0]) 3 48 Try.underlying28 HI.out HZ0.out HZ1.out HZ2.out rfl (by decide) (.slice Ao T.length co) T.length (cellsV T) rfl ?c0 ⟨wf.heap.size + 1, 0, none⟩ 1 1 (Vr.mk 6 t.id wf.heap.size).cells rfl rfl ?c1 ?c2 (by decide) ?c3 ?c4 ?c5 (wf.heap.size + 2) ?c6 ?_))
            case c0 => exact own_below ((HTV2.out.ck)).rr ((Below.refl _ _).alloc (Nat.le_refl _) _ |>.alloc (by simp) _)
            case c1 =>
              intro j u hj
              have := new_cells (wf.alloc (.cells #[.string t.id] 9)) (Vr.mk 6 t.id wf.heap.size).cells 58 j u hj
              simp only [World.size_alloc] at this
              exact this
            case c2 => intro u hu; simp [Vr.cells] at hu; rcases hu with rfl | rfl | rfl <;> rfl
            case c3 => unfold maxLen; have := HKL.out; have := HTL.out; omega
            case c4 => have := HKL.out; have := HTL.out; omega
            case c5 => have := HTV2.out.ck.below.size; simp; omega
            case c6 => simp
            intro g9 cap w9 hown9 hgrow9 hat9 _
            have hidb : ((wf.alloc (.cells #[.string t.id] 9)).alloc (.cells #[.string ⟨#[]⟩, .int .i64 6, .slice (some ⟨wf.heap.size, 0, none⟩) 1 1] 58)).heap[wf.heap.size]? = some (.cells #[.string t.id] 9 (0, 0)) := blkB ((Below.refl _ _).alloc (Nat.le_refl _) _) (heap_alloc_new _ _)
            have hbb : Below wf.heap.size wf ((wf.alloc (.cells #[.string t.id] 9)).alloc (.cells #[.string ⟨#[]⟩, .int .i64 6, .slice (some ⟨wf.heap.size, 0, none⟩) 1 1] 58)) := (Below.refl _ _).alloc (Nat.le_refl _) _ |>.alloc (by simp) _
            have htv9 := ((HTV2.out).lift hbb).more (Nat.le_trans HBO.out.size HB2.out.size) (k := 6) (id := t.id) (b := wf.heap.size) hidb hown9 hgrow9 (by simpa using hat9)
            have HTV9 := hide htv9
            have HR1 : Hid ((T ++ [(⟨6, t.id, wf.heap.size⟩ : Vr)]).map Vr.pair = vioL 5 (nconn l) L4 ++ vioL 6 (nmeet l) (L5.take (k + 1))) := by
              rw [HNX.out, HQ.out, List.map_append, HT0.out, List.append_assoc]; exact hide rfl
            have hln : Value.slice (some ⟨g9, 0, none⟩) (T.length + 1) cap = .slice (some ⟨g9, 0, none⟩) (T ++ [(⟨6, t.id, wf.heap.size⟩ : Vr)]).length cap := by simp
            have HLN := hide hln
            clear hown9 hgrow9 hat9 hidb hbb htv9 hln HTV2 z0
            go_wp2_with fail
            refine ⟨⟨k + 1, T ++ [⟨6, t.id, wf.heap.size⟩], some ⟨g9, 0, none⟩, cap, HKL.out, by go_num, HLN.out, HTV9, hide (by have := HTL.out; simp; omega), HR1⟩, ?_⟩
            have := HMS.out
            simp [intOf]; omega
        · obtain rfl : k = X.length := by omega
          have hT2 := hT.out
          rw [List.take_of_length_le (by rw [← HEQ.out, List.length_map]; exact Nat.le_refl _)] at hT2
          have HT2 := hide hT2
          have HTV2 := hide htv.out
          clear hT hT2 hTl htv hlt
          go_wp2_with fail
          go_ret
          exact ⟨_, rfl, by rw [← HT2.out]; exact HTV2.out.ck.vis, HTV2.out.b0⟩
end Go.Proofs.Ytpiocaomlifljaa

/-! The law that compares Check, Arcs and Parts with the reference, walked. -/
namespace Go.Proofs.Ytpiocaomlifljaa
open Go.RowKit Go.Proofs.PlLex Go.Proofs.PlNet Go.Proofs.PlMap

theorem parts_own (l : List Ob) (v : Value) (w : World) (hv : MapI w v l) :
    Calls Try.prog 19 #[.agg #[v]] w fun e w' => ∃ rv PP, e = .returned rv ∧ GrS w' rv PP ∧ Below w.heap.size w w' ∧ ((mapB l = true → PtsI l PP) ∧ (mapB l = false → PP = []) ∧ PP.length ≤ 1000000000 ∧ ∀ r ∈ PP, r.length ≤ maxLen) := by
  refine (parts_any l v w hv).mono ?_
  rintro e w' ⟨rv, he, hb, h0, h1⟩
  cases hm : mapB l with
  | false => exact ⟨rv, [], he, h0 hm, hb, (fun h => nomatch h), (fun _ => rfl), by simp, fun _ h => nomatch h⟩
  | true =>
    obtain ⟨R, hR, hg⟩ := h1 hm
    obtain ⟨h2, h3⟩ := parts_len R l
    have hlen := hv.len
    exact ⟨rv, _, he, hg, hb, (fun _ => pts_of hm hR), (fun h => nomatch h), by omega, fun r hr => by have := h3 r hr; unfold maxLen; omega⟩
structure MrB (w2 : World) (bm : Nat) (vm : Value) (W : World) : Prop where
  below : Below w2.heap.size w2 W
  lm : bm < w2.heap.size
  cm : W.cell? ⟨bm, 0, none⟩ = some vm
theorem MrB.lift {w2 : World} {bm : Nat} {vm : Value} {W W' : World} (h : MrB w2 bm vm W) (hb : Below W.heap.size W W') : MrB w2 bm vm W' :=
  ⟨bto h.below hb, h.lm, (hb.cell (p := ⟨bm, 0, none⟩) (Nat.lt_of_lt_of_le h.lm h.below.size)).trans h.cm⟩
theorem MrB.cells {w2 : World} {bm : Nat} {vm : Value} {W : World} (h : MrB w2 bm vm W) : MrB w2 bm vm W ∧ W.cell? ⟨bm, 0, none⟩ = some vm := ⟨h, h.cm⟩

set_option maxRecDepth 100000 in
set_option maxHeartbeats 16000000 in
theorem matchlaw_any (l : List Ob) (v : Value) (w : World) (hv : MapW w v l) :
    Calls Try.prog 3 #[.agg #[v]] w fun e w' => e = .returned (.bool true) ∧ Below w.heap.size w w' := by
  have hlen := hv.len
  obtain ⟨A, c, rfl, _, hA⟩ := id hv.obs
  obtain ⟨wa, hwa⟩ : ∃ wa, w.alloc (.cells #[.slice A l.length c] 24) = wa := ⟨_, rfl⟩
  have ha : Below w.heap.size w wa := by rw [← hwa]; exact (Below.refl _ _).alloc (Nat.le_refl _) _
  have hm : wa.heap[w.heap.size]? = some (.cells #[.slice A l.length c] 24 (0, 0)) := by rw [← hwa]; exact heap_alloc_new w _
  have HV := hide (hv.below ha)
  have HH := hide (head_any wa)
  clear hv hA
  go_enter Try.func3, Try.ntmps3
  go_wp2_with fail
  refine HH.out.mono ?_
  rintro _ w1 ⟨rfl, b1⟩
  have hm1 := blkB b1 hm
  have hb1 := bto ha b1
  have HV1 := hide (HV.out.below b1)
  have dm := (blk1 hm1).1
  have HF := hide (fewlaw_any l _ w1 HV1.out)
  clear hwa ha hm HV HH b1
  cases hfew : fewM 24 l with
  | false =>
    rw [hfew] at HF
    clear hfew
    go_wp2_with fail
    refine HF.out.mono ?_
    rintro _ w2 ⟨rfl, b2⟩
    have HB := hide (bto hb1 b2)
    clear dm hm1 b2 hb1
    go_wp2_with fail
    go_ret
    exact ⟨rfl, HB.out⟩
  | true =>
    rw [hfew] at HF
    have HMI := hide (mapI_few HV1.out hfew)
    have h24 := (fewM_ok hfew (fun o ho => (HV1.out.ok o ho).2.2.2.2.1)).1
    clear hfew
    go_wp2_with fail
    refine HF.out.mono ?_
    rintro _ w2 ⟨rfl, b2⟩
    have HB := hide (bto hb1 b2)
    have hm2 := blkB b2 hm1
    have HI2 := hide (HMI.out.below b2)
    have HV2 := hide (HV1.out.below b2)
    have hl5 := HI2.out.len
    have hcl := checkL_len l
    have hal := allArcs_len l l HI2.out.ok
    have hon : (arcsL l).length ≤ l.length * 200000 := by
      have h := onceA_len [] (allArcs l)
      rw [List.length_nil, Nat.zero_add] at h
      exact Nat.le_trans h hal
    have HC1 := hide (fun W (h : Below w2.heap.size w2 W) => check_any l _ W (HI2.out.below h))
    have HC2 := hide (fun W (h : Below w2.heap.size w2 W) => check16_any l _ W (HI2.out.below h) (HV2.out.below h))
    have HA1 := hide (fun W (h : Below w2.heap.size w2 W) => arcs_any l _ W (HI2.out.below h))
    have HA2 := hide (fun W (h : Below w2.heap.size w2 W) => arcs16_any l _ W (HI2.out.below h) (HV2.out.below h))
    have HP1 := hide (fun W (h : Below w2.heap.size w2 W) => parts_own l _ W (HI2.out.below h))
    have HP2 := hide (fun W PP (h : Below w2.heap.size w2 W) => parts16_any l _ PP W (HI2.out.below h) hl5)
    have HCL : Hid ((if mapB l then checkL l else []).length ≤ 1000000000) := by
      split
      · exact hide (by omega)
      · exact hide (by simp)
    have HAL : Hid ((if mapB l then arcsL l else []).length ≤ 1000000000) := by
      split
      · exact hide (by omega)
      · exact hide (by simp)
    have HS1 := hide (samevi_true _ HCL.out)
    have HS2 := hide (samearcs_true _ HAL.out)
    generalize (if mapB l then checkL l else []) = CL at *
    generalize (if mapB l then arcsL l else []) = AL at *
    have hmr : MrB w2 w.heap.size (.slice A l.length c) w2 := ⟨Below.refl _ _, lt_of_block hm2, (blk1 hm2).1⟩
    have hd := hmr.lift (below_drew w2)
    have HB2 := hide hd
    clear HF dm hm1 b2 hb1 hmr hcl hal hon h24
    go_wp2_with fail
    go_region_held3 (fun w' => MrB w2 w.heap.size (.slice A l.length c) w' ∧ w'.cell? ⟨w.heap.size, 0, none⟩ = some (.slice A l.length c))
      (first | exact HB2.out.cells | exact hk7.cells)
      (first
        | (go_at_call 13; (with_reducible refine (HC1.out _ (MrB.below (And.left (by assumption)))).mono ?_); rintro _ w7 ⟨r1, rfl, h1, b7⟩; have hk7 := MrB.lift (And.left (by assumption)) b7)
        | (go_at_call 14; (with_reducible refine (HC2.out _ (MrB.below (And.left (by assumption)))).mono ?_); rintro _ w7 ⟨r2, rfl, h2, b7⟩; have hk7 := MrB.lift (And.left (by assumption)) b7; have h1' := h1.below b7)
        | (go_at_call 12; (with_reducible refine (HS1.out _ _ _ h1' h2).mono ?_); rintro _ w7 ⟨rfl, b7⟩; have hk7 := MrB.lift (And.left (by assumption)) b7)
        | (go_at_call 16; (with_reducible refine (HA1.out _ (MrB.below (And.left (by assumption)))).mono ?_); rintro _ w7 ⟨r3, rfl, h3, b7⟩; have hk7 := MrB.lift (And.left (by assumption)) b7)
        | (go_at_call 17; (with_reducible refine (HA2.out _ (MrB.below (And.left (by assumption)))).mono ?_); rintro _ w7 ⟨r4, rfl, h4, b7⟩; have hk7 := MrB.lift (And.left (by assumption)) b7; have h3' := h3.below b7)
        | (go_at_call 15; (with_reducible refine (HS2.out _ _ _ h3' h4).mono ?_); rintro _ w7 ⟨rfl, b7⟩; have hk7 := MrB.lift (And.left (by assumption)) b7)
        | (go_at_call 19; (with_reducible refine (HP1.out _ (MrB.below (And.left (by assumption)))).mono ?_); rintro _ w7 ⟨r5, PP, rfl, h5, b7, hpp⟩; have hk7 := MrB.lift (And.left (by assumption)) b7)
        | (go_at_call 20; (with_reducible refine (HP2.out _ PP (MrB.below (And.left (by assumption))) hpp.1 hpp.2.1).mono ?_); rintro _ w7 ⟨r6, rfl, h6, b7⟩; have hk7 := MrB.lift (And.left (by assumption)) b7; have h5' := h5.below b7)
        | (go_at_call 18; (with_reducible refine (lists_true _ hpp.2.2.1 hpp.2.2.2 _ _ _ h5' h6).mono ?_); rintro _ w7 ⟨rfl, b7⟩; have hk7 := MrB.lift (And.left (by assumption)) b7))
    all_goals
      go_wp2_with fail
      go_ret
      exact ⟨rfl, bto HB.out (MrB.below (And.left (by assumption)))⟩
end Go.Proofs.Ytpiocaomlifljaa
