/-
  The reference's way, from, Connected and Meets, walked.
-/
import Derived.Test.YtpiocaomlifljaaNetMe
namespace Go.Proofs.Ytpiocaomlifljaa
open Go.RowKit Go.Proofs.PlLex Go.Proofs.PlNet Go.Proofs.PlMap

/-- The value of a way's nodes, and the function that returns it in every world that has grown. -/
structure WayV (l : List Ob) (v : Value) (w : World) (s : BA) (refs : List BA) (g o c : Nat) : Prop where
  lt : g < w.heap.size
  strs : StrsO w g o refs
  cap : refs.length ≤ c
  ne : refs ≠ []
  many : refs.length ≤ 100000
  call : ∀ W, Below w.heap.size w W → Calls Try.prog 59 #[.agg #[v], .string s] W fun e w' => e = .returned (.slice (some ⟨g, o, none⟩) refs.length c) ∧ Below W.heap.size W w'
set_option maxRecDepth 100000 in
set_option maxHeartbeats 8000000 in
theorem way16_any (l : List Ob) (v : Value) (w : World) (hv : MapI w v l) (hw : MapW w v l) (hm : mapB l = true) (s : BA) (refs : List BA) (hs : wayAt l s = some refs) : ∃ g o c, WayV l v w s refs g o c := by
  obtain ⟨p, h1, h2, h3⟩ := way_find (mapB_uniq hm) (s := s) (by rw [hs]; rfl)
  rw [hs] at h2
  obtain rfl : refs = p.refs := Option.some.inj h2
  obtain ⟨h4, h5⟩ := findO_some h1
  have hne := wayB_ne hm h4 h3
  obtain ⟨j, h6, h7⟩ := findN_of (mapB_uniq hm) h4
  rw [h5] at h6
  have hjl := (List.getElem?_eq_some_iff.1 h7).1
  obtain ⟨A, c0, rfl, _, hA⟩ := id hv.obs
  obtain ⟨gm, om, rfl, hgm, hp⟩ := hA.resolve_left (by rintro rfl; simp at hjl)
  obtain ⟨rv, tv, hoa⟩ := hp j p h7
  obtain ⟨Ar, c, hrv, hcap, hAr⟩ := id hoa.refs
  subst hrv
  obtain ⟨g, o, rfl, hg, hst⟩ := hAr.resolve_left hne
  refine ⟨g, o, c, hg, hst, hcap, hne, (hv.ok p h4).2.1, fun W hb => ?_⟩
  have hfi : findI l s = j := by unfold findI; rw [h6]
  have hlen := hv.len
  obtain ⟨wo, hwo⟩ : ∃ wo, W.alloc (.cells #[.slice (some ⟨gm, om, none⟩) l.length c0] 24) = wo := ⟨_, rfl⟩
  have HBO : Hid (Below W.heap.size W wo) := by rw [← hwo]; exact (Below.refl _ _).alloc (Nat.le_refl _) _
  have HBL : Hid (wo.heap[W.heap.size]? = some (.cells #[.slice (some ⟨gm, om, none⟩) l.length c0] 24 (0, 0))) := by rw [← hwo]; exact heap_alloc_new _ _
  have E0 : ∀ u : Gls wo, u.w.cell? ⟨W.heap.size, 0, none⟩ = some (.slice (some ⟨gm, om, none⟩) l.length c0) := fun u => (blk1 (blkB u.2 HBL.out)).1
  have X4 : ∀ u : Gls wo, u.w.cell? ⟨gm, om + j * 6 + 4, none⟩ = some (.slice (some ⟨g, o, none⟩) p.refs.length c) := fun u => (hoa.below hgm (bto hb (bto HBO.out u.2))).c4
  have FF := hide (fun u : Gls wo => find_any l s _ u.w (hw.below (bto hb (bto HBO.out u.2))))
  rw [hfi] at FF
  have YN : Nonempty (Gls wo) := ⟨⟨_, Below.refl _ _⟩⟩
  have j0 : (0 : Int) ≤ j := by omega
  have j1 : (j : Int) < l.length := by omega
  clear h1 h2 h3 h4 h5 h6 h7 hne hfi hjl hp hoa hAr hA hst hv hw hb hs hm
  go_enter Try.func59, Try.ntmps59
  go_wp2_with fail
  refine wp_region_quietW (J := Gls wo) Gls.w ⟨_, below_drew wo⟩ rfl (by kernel_rfl) (by kernel_rfl) ?_
  repeat (go_big_quiet_step (((with_reducible refine (FF.out _).mono ?_); rintro _ w8 ⟨rfl, b8⟩; exact ⟨rfl, Gls.go _ b8⟩)))
  refine wpQuiet_nil ?_
  rintro w9 ⟨u, rfl⟩
  have HB := hide (bto HBO.out u.2)
  go_wp2_with fail
  go_ret
  exact ⟨rfl, HB.out⟩

/-- From a node through ways, each in one of its directions. -/
def chainF (l : List Ob) : BA → List BA → Bool
  | _, [] => true
  | a, s :: r => ((firstN l s).toList == a.toList && chainF l (lastN l s) r) || ((lastN l s).toList == a.toList && chainF l (firstN l s) r)
theorem chainF_walk (l : List Ob) : ∀ (r : List BA) (a : BA), chainF l a r = true ↔ ∃ c, Walk (firstN l) (lastN l) a r c := by
  intro r
  induction r with
  | nil => intro a; simp [chainF, Walk]
  | cons s r ih =>
    intro a
    unfold chainF
    simp only [Walk, Bool.or_eq_true, Bool.and_eq_true, beq_iff_eq, toList_inj]
    rw [ih, ih]
    constructor
    · rintro (⟨h1, c, h2⟩ | ⟨h1, c, h2⟩)
      · exact ⟨c, .inl ⟨h1.symm, h2⟩⟩
      · exact ⟨c, .inr ⟨h1.symm, h2⟩⟩
    · rintro ⟨c, ⟨h1, h2⟩ | ⟨h1, h2⟩⟩
      · exact .inl ⟨h1.symm, c, h2⟩
      · exact .inr ⟨h1.symm, c, h2⟩
theorem conn_chain (l : List Ob) (s : BA) (r : List BA) : connB l (s :: r) = (chainF l (firstN l s) (s :: r) || chainF l (lastN l s) (s :: r)) := by
  rw [Bool.eq_iff_iff, connB_walk, Bool.or_eq_true, chainF_walk, chainF_walk]
  constructor
  · rintro ⟨a, c, h⟩
    have h2 := h
    simp only [Walk] at h
    rcases h with ⟨h, _⟩ | ⟨h, _⟩
    · exact .inl ⟨c, by rw [← h]; exact h2⟩
    · exact .inr ⟨c, by rw [← h]; exact h2⟩
  · rintro (⟨c, h⟩ | ⟨c, h⟩)
    · exact ⟨_, c, h⟩
    · exact ⟨_, c, h⟩
theorem way_ends {l : List Ob} {s : BA} {refs : List BA} (h : wayAt l s = some refs) (hne : refs ≠ []) : refs[0]? = some (firstN l s) ∧ refs[refs.length - 1]? = some (lastN l s) := by
  unfold firstN lastN
  rw [h]
  exact ends_at hne
set_option maxRecDepth 100000 in
set_option maxHeartbeats 16000000 in
theorem from_any (l : List Ob) (v : Value) (hm : mapB l = true) (ways : List BA) (wv : Value) (hall : ∀ s ∈ ways, (wayAt l s).isSome = true) (hl : ways.length ≤ 100000) (d : Nat) : ∀ (k : Nat) (a : BA) (w : World), k + d = ways.length → MapI w v l → MapW w v l → StS w wv ways →
    Calls Try.prog 60 #[.agg #[v], wv, .int .i64 k, .string a] w fun e w' => e = .returned (.bool (chainF l a (ways.drop k))) ∧ Below w.heap.size w w' := by
  induction d with
  | zero =>
    intro k a w hk hv _ hs
    obtain ⟨A, c, rfl, _, _⟩ := hv.obs
    obtain ⟨Aw, cw, rfl, _, _⟩ := hs
    have HZ : Hid (chainF l a (ways.drop k) = true) := by rw [List.drop_eq_nil_of_le (by omega)]; exact hide rfl
    obtain rfl : k = ways.length := by omega
    clear hall hv hk
    go_enter Try.func60, Try.ntmps60
    go_wp2_with fail
    go_ret
    exact ⟨ret_bool HZ.out.symm, (Below.refl _ _).alloc (Nat.le_refl _) _⟩
  | succ d ih =>
    intro k a w hk hv hw hs
    have hlt : k < ways.length := by omega
    have hx := List.getElem?_eq_getElem hlt
    have hsm := hall _ (List.getElem_mem hlt)
    have hdr := List.drop_eq_getElem_cons hlt
    generalize ways[k] = s at *
    obtain ⟨refs, hre⟩ := Option.isSome_iff_exists.1 hsm
    obtain ⟨g, o, c, hwv⟩ := way16_any l v w hv hw hm s refs hre
    obtain ⟨q0, q1⟩ := way_ends hre hwv.ne
    have HI := hide (fun (a : BA) (W : World) (h : Below w.heap.size w W) => ih (k + 1) a W (by omega) (hv.below h) (hw.below h) (hs.below h))
    obtain ⟨R, hR⟩ : ∃ R, chainF l a (ways.drop k) = R := ⟨_, rfl⟩
    rw [hR]
    rw [hdr] at hR
    unfold chainF at hR
    obtain ⟨Am, cm, rfl, _, _⟩ := hv.obs
    obtain ⟨Aw, cw, rfl, _, hAw⟩ := hs
    obtain ⟨gw, ow, rfl, hgw, hpw⟩ := hAw.resolve_left (by rintro rfl; simp at hlt)
    have c0 := hpw k s hx
    obtain ⟨wo, hwo⟩ : ∃ wo, w.alloc (.cells #[.slice Am l.length cm] 24) = wo := ⟨_, rfl⟩
    have HBO : Hid (Below w.heap.size w wo) := by rw [← hwo]; exact (Below.refl _ _).alloc (Nat.le_refl _) _
    have HBL : Hid (wo.heap[w.heap.size]? = some (.cells #[.slice Am l.length cm] 24 (0, 0))) := by rw [← hwo]; exact heap_alloc_new _ _
    have E0 : ∀ u : Gls wo, u.w.cell? ⟨w.heap.size, 0, none⟩ = some (.slice Am l.length cm) := fun u => (blk1 (blkB u.2 HBL.out)).1
    have C0 : ∀ u : Gls wo, u.w.cell? ⟨gw, ow + k, none⟩ = some (.string s) := fun u => ((bto HBO.out u.2).cell (p := ⟨gw, _, none⟩) hgw).trans c0
    have HWC := hide (fun u : Gls wo => hwv.call u.w (bto HBO.out u.2))
    have M0 : ∀ W, Below wo.heap.size wo W → W.cell? ⟨g, o, none⟩ = some (.string (firstN l s)) := fun W h => ((bto HBO.out h).cell (p := ⟨g, _, none⟩) hwv.lt).trans (by have := hwv.strs 0 _ q0; rwa [Nat.add_zero] at this)
    have M1 : ∀ W, Below wo.heap.size wo W → W.cell? ⟨g, o + (refs.length - 1), none⟩ = some (.string (lastN l s)) := fun W h => ((bto HBO.out h).cell (p := ⟨g, _, none⟩) hwv.lt).trans (hwv.strs _ _ q1)
    have HM0 := hide M0
    have HM1 := hide M1
    have hpos : 0 < refs.length := List.length_pos_iff.2 hwv.ne
    have hmany := hwv.many
    have YN : Nonempty (Gls wo) := ⟨⟨_, Below.refl _ _⟩⟩
    have k0 : (0 : Int) ≤ k := by omega
    have k1 : (k : Int) < ways.length := by omega
    have k2 : ((k : Int) == ways.length) = false := beq_eq_false_iff_ne.2 (by omega)
    have k3 : ¬ k = ways.length := by omega
    obtain ⟨x1, hx1⟩ := bool_of (b := ((firstN l s).toList == a.toList))
    obtain ⟨x2, hx2⟩ := bool_of (b := ((lastN l s).toList == a.toList))
    have y1 : (x1 = true → (firstN l s).toList = a.toList) ∧ (x1 = false → ¬ (firstN l s).toList = a.toList) := ⟨fun h => by rw [h] at hx1; simpa using hx1, fun h e => by rw [h, e] at hx1; simp at hx1⟩
    have y2 : (x2 = true → (lastN l s).toList = a.toList) ∧ (x2 = false → ¬ (lastN l s).toList = a.toList) := ⟨fun h => by rw [h] at hx2; simpa using hx2, fun h e => by rw [h, e] at hx2; simp at hx2⟩
    have HI1 := hide (HI.out (lastN l s))
    have HI2 := hide (HI.out (firstN l s))
    rw [hx1, hx2] at hR
    obtain ⟨r1, hr1⟩ := bool_of (b := chainF l (lastN l s) (ways.drop (k + 1)))
    obtain ⟨r2, hr2⟩ := bool_of (b := chainF l (firstN l s) (ways.drop (k + 1)))
    rw [hr1] at hR HI1
    rw [hr2] at hR HI2
    have HR := hide hR
    have s1 : IntKind.i64.wrap ((k : Int) + 1) = (k : Int) + 1 := IntWalk.i64_in _ (by omega)
    have hkc : ((k + 1 : Nat) : Int) = (k : Int) + 1 := by omega
    rw [hkc] at HI1 HI2
    clear HI hR hr1 hr2 hx hsm hdr hre hwv q0 q1 M0 M1 hAw hpw hw hgw hlt c0 hall ih hm hkc hk hv
    generalize firstN l s = F at *
    generalize lastN l s = Z at *
    go_enter Try.func60, Try.ntmps60
    go_wp2_with fail
    refine wp_region_quietW (J := Gls wo) Gls.w ⟨_, below_drew wo⟩ rfl (by kernel_rfl) (by kernel_rfl) ?_
    repeat (go_big_quiet_step (((with_reducible refine (HWC.out _).mono ?_); rintro _ w8 ⟨rfl, b8⟩; exact ⟨rfl, Gls.go _ b8⟩)))
    refine wpQuiet_nil ?_
    rintro w9 ⟨u, rfl⟩
    have hu := u.2
    have m0 := HM0.out u.w hu
    have m1 := HM1.out u.w hu
    have e0 := E0 u
    have HU := hide (show Below wo.heap.size wo u.w from hu)
    clear hu E0 C0 HWC
    generalize u.w = wq at *
    have HP1 := hide (HI1.out wq (bto HBO.out HU.out))
    have HP2 := hide (HI2.out wq (bto HBO.out HU.out))
    have l0 : (0 : Int) < refs.length := by omega
    have l1 : IntKind.i64.wrap ((refs.length : Int) - 1) = (refs.length : Int) - 1 := IntWalk.i64_in _ (by omega)
    have l2 : ((refs.length : Int) - 1).toNat = refs.length - 1 := by omega
    cases x1 with
    | true =>
      replace y1 := y1.1 rfl
      go_wp2_with fail
      refine HP1.out.mono ?_
      rintro _ w10 ⟨rfl, b10⟩
      have HU10 := hide (bto HU.out b10)
      have e1 := (blk1 (blkB HU10.out HBL.out)).1
      have HP3 := hide (HI2.out w10 (bto HBO.out HU10.out))
      clear b10 m0 m1 e0
      cases r1 with
      | true =>
        go_wp2_with fail
        go_ret
        exact ⟨ret_bool (by rw [← HR.out]; rfl), bto HBO.out HU10.out⟩
      | false =>
        cases x2 with
        | true =>
          replace y2 := y2.1 rfl
          go_wp2_with fail
          refine HP3.out.mono ?_
          rintro _ w11 ⟨rfl, b11⟩
          have HU11 := hide (bto HU10.out b11)
          clear b11 e1
          go_wp2_with fail
          go_ret
          exact ⟨ret_bool (by rw [← HR.out]; simp), bto HBO.out HU11.out⟩
        | false =>
          replace y2 := y2.2 rfl
          go_wp2_with fail
          go_ret
          exact ⟨ret_bool (by rw [← HR.out]; rfl), bto HBO.out HU10.out⟩
    | false =>
      replace y1 := y1.2 rfl
      cases x2 with
      | true =>
        replace y2 := y2.1 rfl
        go_wp2_with fail
        refine HP2.out.mono ?_
        rintro _ w11 ⟨rfl, b11⟩
        have HU11 := hide (bto HU.out b11)
        clear b11 m0 m1 e0
        go_wp2_with fail
        go_ret
        exact ⟨ret_bool (by rw [← HR.out]; simp), bto HBO.out HU11.out⟩
      | false =>
        replace y2 := y2.2 rfl
        go_wp2_with fail
        go_ret
        exact ⟨ret_bool (by rw [← HR.out]; rfl), bto HBO.out HU.out⟩
set_option maxRecDepth 100000 in
set_option maxHeartbeats 16000000 in
theorem connected16_any (l : List Ob) (v : Value) (hm : mapB l = true) (o : Ob) (rv tv : Value) (w : World) (h4 : o.kind = 4) (ho : o ∈ l) (hsd : soundB l o = true) (hv : MapI w v l) (hw : MapW w v l) (hr : StS w rv o.refs) (ht : TgS w tv o.tags) :
    Calls Try.prog 38 #[.agg #[v], .agg (obV o rv tv)] w fun e w' => e = .returned (.bool (connB l o.refs)) ∧ Below w.heap.size w w' := by
  have hall : ∀ s ∈ o.refs, (wayAt l s).isSome = true := soundL_way2 (show o.kind ≠ 5 by omega) o.refs 0 hsd
  have hls := obB_least (mapB_obs hm o ho)
  rw [h4] at hls
  have hl1 : 1 ≤ o.refs.length := hls
  have hmany := (hv.ok o ho).2.1
  obtain ⟨s0, rest, hrr⟩ : ∃ s r, o.refs = s :: r := by
    cases e : o.refs with
    | nil => rw [e] at hl1; simp at hl1
    | cons s r => exact ⟨s, r, rfl⟩
  obtain ⟨refs, hre⟩ := Option.isSome_iff_exists.1 (hall s0 (by rw [hrr]; simp))
  obtain ⟨g, off, c, hwv⟩ := way16_any l v w hv hw hm s0 refs hre
  obtain ⟨q0, q1⟩ := way_ends hre hwv.ne
  have hcc : connB l o.refs = (chainF l (firstN l s0) o.refs || chainF l (lastN l s0) o.refs) := by rw [hrr]; exact conn_chain l s0 rest
  rw [hcc]
  have hx : o.refs[0]? = some s0 := by rw [hrr]; rfl
  have HFR : Hid (∀ (a : BA) (W : World), Below w.heap.size w W → Calls Try.prog 60 #[.agg #[v], rv, .int .i64 0, .string a] W fun e w' => e = .returned (.bool (chainF l a o.refs)) ∧ Below W.heap.size W w') :=
    hide (fun a W h => from_any l v hm o.refs rv hall hmany o.refs.length 0 a W (by omega) (hv.below h) (hw.below h) (hr.below h))
  obtain ⟨Am, cm, rfl, _, _⟩ := id hv.obs
  obtain ⟨At, ct, rfl, _⟩ := id ht
  obtain ⟨Ar, cr, rfl, _, hAr⟩ := id hr
  obtain ⟨wo, hwo⟩ : ∃ wo, (w.alloc (.cells #[.slice Am l.length cm] 24)).alloc (.cells #[.string o.id, .int .i64 o.kind, .int .i64 o.x, .int .i64 o.y, .slice Ar o.refs.length cr, .slice At o.tags.length ct] 42) = wo := ⟨_, rfl⟩
  have HBO : Hid (Below w.heap.size w wo) := by rw [← hwo]; exact ((Below.refl _ _).alloc (Nat.le_refl _) _).alloc (by simp) _
  have HMB : Hid (wo.heap[w.heap.size]? = some (.cells #[.slice Am l.length cm] 24 (0, 0))) := by
    rw [← hwo]
    exact blkB ((Below.refl _ _).alloc (Nat.le_refl _) _) (heap_alloc_new w _)
  have hbb : wo.heap[w.heap.size + 1]? = some (.cells #[.string o.id, .int .i64 o.kind, .int .i64 o.x, .int .i64 o.y, .slice Ar o.refs.length cr, .slice At o.tags.length ct] 42 (0, 0)) := by
    rw [← hwo]
    simpa using heap_alloc_new (w.alloc (.cells #[.slice Am l.length cm] 24)) (.cells #[.string o.id, .int .i64 o.kind, .int .i64 o.x, .int .i64 o.y, .slice Ar o.refs.length cr, .slice At o.tags.length ct] 42)
  have HBB := hide hbb
  clear hbb
  have E0 : ∀ u : Gls wo, u.w.cell? ⟨w.heap.size, 0, none⟩ = some (.slice Am l.length cm) := fun u => (blk1 (blkB u.2 HMB.out)).1
  have D4 : ∀ u : Gls wo, u.w.cell? ⟨w.heap.size + 1, 4, none⟩ = some (.slice Ar o.refs.length cr) := fun u => (box6 (blkB u.2 HBB.out)).2.2.2.2.1
  have YN : Nonempty (Gls wo) := ⟨⟨_, Below.refl _ _⟩⟩
  obtain ⟨gw, ow, rfl, hgw, hpw⟩ := hAr.resolve_left (by intro e; rw [e] at hl1; simp at hl1)
  have C0 : ∀ u : Gls wo, u.w.cell? ⟨gw, ow, none⟩ = some (.string s0) := fun u => ((bto HBO.out u.2).cell (p := ⟨gw, _, none⟩) hgw).trans (by have := hpw 0 _ hx; rwa [Nat.add_zero] at this)
  have M0 : ∀ u : Gls wo, u.w.cell? ⟨g, off, none⟩ = some (.string (firstN l s0)) := fun u => ((bto HBO.out u.2).cell (p := ⟨g, _, none⟩) hwv.lt).trans (by have := hwv.strs 0 _ q0; rwa [Nat.add_zero] at this)
  have M1 : ∀ u : Gls wo, u.w.cell? ⟨g, off + (refs.length - 1), none⟩ = some (.string (lastN l s0)) := fun u => ((bto HBO.out u.2).cell (p := ⟨g, _, none⟩) hwv.lt).trans (hwv.strs _ _ q1)
  have HWC := hide (fun u : Gls wo => hwv.call u.w (bto HBO.out u.2))
  have HF1 := hide (fun u : Gls wo => HFR.out (firstN l s0) u.w (bto HBO.out u.2))
  have HF2 := hide (fun u : Gls wo => HFR.out (lastN l s0) u.w (bto HBO.out u.2))
  have hpos : 0 < refs.length := List.length_pos_iff.2 hwv.ne
  have hmn := hwv.many
  have l0 : (0 : Int) < refs.length := by omega
  have l1 : IntKind.i64.wrap ((refs.length : Int) - 1) = (refs.length : Int) - 1 := IntWalk.i64_in _ (by omega)
  have l2 : ((refs.length : Int) - 1).toNat = refs.length - 1 := by omega
  have l3 : (0 : Int) ≤ (refs.length : Int) - 1 := by omega
  have l4 : (refs.length : Int) - 1 < refs.length := by omega
  have l5 : (0 : Int) < o.refs.length := by omega
  obtain ⟨r1, hr1⟩ := bool_of (b := chainF l (firstN l s0) o.refs)
  obtain ⟨r2, hr2⟩ := bool_of (b := chainF l (lastN l s0) o.refs)
  rw [hr1] at HF1
  rw [hr2] at HF2
  rw [hr1, hr2]
  have hbd := below_drew wo
  unfold obV
  clear HFR hr1 hr2 hcc hre hwv q0 q1 hrr hall hls hx hsd ho h4 hm hv hw hr ht hAr hpw hgw
  generalize firstN l s0 = F at *
  generalize lastN l s0 = Z at *
  go_enter Try.func38, Try.ntmps38
  go_wp2_with fail
  refine wp_region_quietW (J := Gls wo) Gls.w ⟨_, hbd⟩ rfl (by kernel_rfl) (by kernel_rfl) ?_
  repeat (go_big_quiet_step (((with_reducible refine (HWC.out _).mono ?_); rintro _ w8 ⟨rfl, b8⟩; exact ⟨rfl, Gls.go _ b8⟩)))
  refine wpQuiet_nil ?_
  rintro w9 ⟨u, rfl⟩
  have hbd := bto u.2 (below_drew u.w)
  clear hwo
  cases r1 with
  | true =>
    go_wp2_with fail
    refine wp_region_quietW (J := Gls wo) Gls.w ⟨_, hbd⟩ rfl (by kernel_rfl) (by kernel_rfl) ?_
    repeat (go_big_quiet_step (((with_reducible refine (HF1.out _).mono ?_); rintro _ w8 ⟨rfl, b8⟩; exact ⟨rfl, Gls.go _ b8⟩)))
    refine wpQuiet_nil ?_
    rintro w9 ⟨u2, rfl⟩
    have HB := hide (bto HBO.out u2.2)
    go_wp2_with fail
    go_ret
    exact ⟨ret_bool (by simp), HB.out⟩
  | false =>
    go_wp2_with fail
    refine wp_region_quietW (J := Gls wo) Gls.w ⟨_, hbd⟩ rfl (by kernel_rfl) (by kernel_rfl) ?_
    repeat (go_big_quiet_step (first | ((with_reducible refine (HF1.out _).mono ?_); rintro _ w8 ⟨rfl, b8⟩; exact ⟨rfl, Gls.go _ b8⟩) | ((with_reducible refine (HF2.out _).mono ?_); rintro _ w8 ⟨rfl, b8⟩; exact ⟨rfl, Gls.go _ b8⟩)))
    refine wpQuiet_nil ?_
    rintro w9 ⟨u2, rfl⟩
    have HB := hide (bto HBO.out u2.2)
    go_wp2_with fail
    go_ret
    exact ⟨ret_bool (by simp), HB.out⟩
set_option maxRecDepth 100000 in
set_option maxHeartbeats 16000000 in
theorem meets16_any (l : List Ob) (v : Value) (hm : mapB l = true) (o : Ob) (rv tv : Value) (w : World) (h5 : o.kind = 5) (ho : o ∈ l) (hsd : soundB l o = true) (hv : MapI w v l) (hw : MapW w v l) (hr : StS w rv o.refs) (ht : TgS w tv o.tags) :
    Calls Try.prog 39 #[.agg #[v], .agg (obV o rv tv)] w fun e w' => e = .returned (.bool (meetsB l o)) ∧ Below w.heap.size w w' := by
  obtain ⟨h3, r0, r1, r2, hrr⟩ := turn_refs hm ho h5
  have hs2 := hsd
  unfold soundB at hs2
  rw [hrr, h5] at hs2
  simp only [soundL, Bool.and_eq_true, Bool.and_true] at hs2
  obtain ⟨hs0, _, hs2⟩ := hs2
  rw [if_neg (by omega)] at hs0
  rw [if_neg (by omega)] at hs2
  obtain ⟨ra, hra⟩ := Option.isSome_iff_exists.1 hs0
  obtain ⟨rb, hrb⟩ := Option.isSome_iff_exists.1 hs2
  obtain ⟨ga, oa, ca, hwa⟩ := way16_any l v w hv hw hm r0 ra hra
  obtain ⟨gb, ob, cb, hwb⟩ := way16_any l v w hv hw hm r2 rb hrb
  have hme : meetsB l o = (hasS r1 ra && hasS r1 rb) := by
    unfold meetsB refAt
    rw [hrr]
    simp only [List.getD_cons_zero, List.getD_cons_succ]
    rw [hra, hrb]
    rfl
  rw [hme]
  obtain ⟨Am, cm, rfl, _, _⟩ := id hv.obs
  obtain ⟨At, ct, rfl, _⟩ := id ht
  obtain ⟨Ar, cr, rfl, _, hAr⟩ := id hr
  obtain ⟨wo, hwo⟩ : ∃ wo, (w.alloc (.cells #[.slice Am l.length cm] 24)).alloc (.cells #[.string o.id, .int .i64 o.kind, .int .i64 o.x, .int .i64 o.y, .slice Ar o.refs.length cr, .slice At o.tags.length ct] 42) = wo := ⟨_, rfl⟩
  have HBO : Hid (Below w.heap.size w wo) := by rw [← hwo]; exact ((Below.refl _ _).alloc (Nat.le_refl _) _).alloc (by simp) _
  have HMB : Hid (wo.heap[w.heap.size]? = some (.cells #[.slice Am l.length cm] 24 (0, 0))) := by
    rw [← hwo]
    exact blkB ((Below.refl _ _).alloc (Nat.le_refl _) _) (heap_alloc_new w _)
  have hbb : wo.heap[w.heap.size + 1]? = some (.cells #[.string o.id, .int .i64 o.kind, .int .i64 o.x, .int .i64 o.y, .slice Ar o.refs.length cr, .slice At o.tags.length ct] 42 (0, 0)) := by
    rw [← hwo]
    simpa using heap_alloc_new (w.alloc (.cells #[.slice Am l.length cm] 24)) (.cells #[.string o.id, .int .i64 o.kind, .int .i64 o.x, .int .i64 o.y, .slice Ar o.refs.length cr, .slice At o.tags.length ct] 42)
  have HBB := hide hbb
  clear hbb
  have E0 : ∀ u : Gls wo, u.w.cell? ⟨w.heap.size, 0, none⟩ = some (.slice Am l.length cm) := fun u => (blk1 (blkB u.2 HMB.out)).1
  have D4 : ∀ u : Gls wo, u.w.cell? ⟨w.heap.size + 1, 4, none⟩ = some (.slice Ar o.refs.length cr) := fun u => (box6 (blkB u.2 HBB.out)).2.2.2.2.1
  have YN : Nonempty (Gls wo) := ⟨⟨_, Below.refl _ _⟩⟩
  rw [hrr] at hAr
  obtain ⟨gw, ow, rfl, hgw, hpw⟩ := hAr.resolve_left (List.cons_ne_nil _ _)
  rw [h3] at D4
  have R0 : ∀ u : Gls wo, u.w.cell? ⟨gw, ow, none⟩ = some (.string r0) := fun u => ((bto HBO.out u.2).cell (p := ⟨gw, _, none⟩) hgw).trans (by have := hpw 0 _ rfl; rwa [Nat.add_zero] at this)
  have R1 : ∀ u : Gls wo, u.w.cell? ⟨gw, ow + 1, none⟩ = some (.string r1) := fun u => ((bto HBO.out u.2).cell (p := ⟨gw, _, none⟩) hgw).trans (hpw 1 _ rfl)
  have R2 : ∀ u : Gls wo, u.w.cell? ⟨gw, ow + 2, none⟩ = some (.string r2) := fun u => ((bto HBO.out u.2).cell (p := ⟨gw, _, none⟩) hgw).trans (hpw 2 _ rfl)
  have HWA := hide (fun u : Gls wo => hwa.call u.w (bto HBO.out u.2))
  have HWB := hide (fun u : Gls wo => hwb.call u.w (bto HBO.out u.2))
  have HIA := hide (fun u : Gls wo => in_any ra r1 (.slice (some ⟨ga, oa, none⟩) ra.length ca) u.w ⟨_, _, rfl, hwa.cap, .inr ⟨ga, oa, rfl, Nat.lt_of_lt_of_le hwa.lt (bto HBO.out u.2).size, hwa.strs.below hwa.lt (bto HBO.out u.2)⟩⟩ hwa.many)
  have HIB := hide (fun u : Gls wo => in_any rb r1 (.slice (some ⟨gb, ob, none⟩) rb.length cb) u.w ⟨_, _, rfl, hwb.cap, .inr ⟨gb, ob, rfl, Nat.lt_of_lt_of_le hwb.lt (bto HBO.out u.2).size, hwb.strs.below hwb.lt (bto HBO.out u.2)⟩⟩ hwb.many)
  obtain ⟨x1, hx1⟩ := bool_of (b := hasS r1 ra)
  obtain ⟨x2, hx2⟩ := bool_of (b := hasS r1 rb)
  rw [hx1] at HIA
  rw [hx2] at HIB
  rw [hx1, hx2]
  have hbd := below_drew wo
  unfold obV
  rw [h3] at hwo
  rw [h3]
  clear hx1 hx2 hme hra hrb hwa hwb hs0 hs2 hsd hrr h5 ho hm hv hw hr ht hAr hpw hgw h3
  go_enter Try.func39, Try.ntmps39
  cases x1 with
  | false =>
    go_wp2_with fail
    refine wp_region_quietW (J := Gls wo) Gls.w ⟨_, hbd⟩ rfl (by kernel_rfl) (by kernel_rfl) ?_
    repeat (go_big_quiet_step (first | ((with_reducible refine (HWA.out _).mono ?_); rintro _ w8 ⟨rfl, b8⟩; exact ⟨rfl, Gls.go _ b8⟩) | ((with_reducible refine (HIA.out _).mono ?_); rintro _ w8 ⟨rfl, rfl⟩; exact ⟨rfl, Gls.go _ (Below.refl _ _)⟩)))
    refine wpQuiet_nil ?_
    rintro w9 ⟨u2, rfl⟩
    have HB := hide (bto HBO.out u2.2)
    go_wp2_with fail
    go_ret
    exact ⟨ret_bool (by simp), HB.out⟩
  | true =>
    go_wp2_with fail
    refine wp_region_quietW (J := Gls wo) Gls.w ⟨_, hbd⟩ rfl (by kernel_rfl) (by kernel_rfl) ?_
    repeat (go_big_quiet_step (first | ((with_reducible refine (HWA.out _).mono ?_); rintro _ w8 ⟨rfl, b8⟩; exact ⟨rfl, Gls.go _ b8⟩) | ((with_reducible refine (HIA.out _).mono ?_); rintro _ w8 ⟨rfl, rfl⟩; exact ⟨rfl, Gls.go _ (Below.refl _ _)⟩) | ((with_reducible refine (HWB.out _).mono ?_); rintro _ w8 ⟨rfl, b8⟩; exact ⟨rfl, Gls.go _ b8⟩) | ((with_reducible refine (HIB.out _).mono ?_); rintro _ w8 ⟨rfl, rfl⟩; exact ⟨rfl, Gls.go _ (Below.refl _ _)⟩)))
    refine wpQuiet_nil ?_
    rintro w9 ⟨u2, rfl⟩
    have HB := hide (bto HBO.out u2.2)
    go_wp2_with fail
    go_ret
    exact ⟨ret_bool (by simp), HB.out⟩
end Go.Proofs.Ytpiocaomlifljaa
