/-
  The reference's borders, walked.
-/
import Derived.Test.YtfkgjbdeicggaaaGreatTopZG
namespace Go.Proofs.YtfkgjbdeicggaaaGreat
open Go.RowKit Go.Proofs.PlLex Go.Proofs.PlNet Go.Proofs.PlMap Go.Proofs.PlGeom Go.Proofs.PlTop
attribute [local go_sem] Oper.semAt_some run_min_str run_max_str

/-- put, on any list. -/
theorem put13_any (l : List Ob) (mv : Value) (D : Nat) (v : Value) (L : List (Pr × Value)) (pa pb id : BA) (w0 w : World) (hm : MapI w0 mv l) (hv : mapB l = true) (hb0 : Below w0.heap.size w0 w) (h : BdS w0.heap.size (ptO l) D v L w) (hnil : L = [] → v = .slice none 0 0) (hl : L.length ≤ 1000) (hD : D ≤ 1000) (hs : (L.map Prod.fst).Pairwise ltP) (na : isNode l pa = true) (nb : isNode l pb = true) :
    Calls Tryz.prog 48 #[v, .agg #[mv], .agg #[.string pa, .string pb], .string id] w fun e w' => ∃ v' L', e = .returned v' ∧ BdS w0.heap.size (ptO l) (D + 1) v' L' w' ∧ L'.map Prod.fst = insP (pa, pb) (L.map Prod.fst) ∧ Below w0.heap.size w0 w' ∧ w.grownBy w' v.ownBlock := by
  by_cases h0 : L = []
  · rw [hnil h0, h0]
    exact put_none l mv D pa pb id w0 w hm hv hb0 na nb
  · have h1 : 1 ≤ L.length := by
      cases L with
      | nil => exact absurd rfl h0
      | cons a L => simp
    obtain ⟨g, cap, rfl⟩ := row_at2 h.row h1
    exact put_more l mv D g cap L pa pb id w0 w hm hv hb0 h h1 hl hD hs na nb
theorem insP_ne (p : Pr) (L : List Pr) : insP p L ≠ [] := fun e => by
  have := (insP_mem p p L).2 (.inl rfl)
  rw [e] at this
  cases this
/-- The borders of the first objects, and of some sides of the next one. -/
def accP (l : List Ob) (i : Nat) (o : Ob) (k : Nat) : List Pr := putAll (putAll [] ((l.take i).flatMap (bordO l))) ((sidesO o).take k)
/-- What the call keeps beside the list. -/
structure KpI (W : World) (mb : Nat) (mv : Value) (b5 : Nat) (o : Ob) (rv tv sv : Value) (n : Nat) (B : Nat) : Prop where
  mp : W.heap[mb]? = some (.cells #[mv] 24 (0, 0))
  ob : W.heap[b5]? = some (.cells (obV o rv tv) 47 (0, 0))
  sd : W.ownsRow B 87 2 sv n ((sidesO o).flatMap encP)
theorem KpI.below {W W' : World} {mb b5 n B : Nat} {mv rv tv sv : Value} {o : Ob} (h : KpI W mb mv b5 o rv tv sv n B) (hb : Below W.heap.size W W') : KpI W' mb mv b5 o rv tv sv n B := ⟨blkB hb h.mp, blkB hb h.ob, own_below h.sd hb⟩
theorem KpI.grow {W W' : World} {mb b5 n B B2 m : Nat} {mv rv tv sv v : Value} {o : Ob} {xs : List Value} (h : KpI W mb mv b5 o rv tv sv n B) (hr : W.ownsRow B2 75 7 v m xs) (hg : W.grownBy W' v.ownBlock) : KpI W' mb mv b5 o rv tv sv n B :=
  ⟨(hg.block _ (lt_of_block h.mp) (fun e => row_ne_blk hr h.mp (by decide) e)).trans h.mp, (hg.block _ (lt_of_block h.ob) (fun e => row_ne_blk hr h.ob (by decide) e)).trans h.ob, own_kept h.sd hg fun b hb e => row_ne_row h.sd hr (by decide) b hb e⟩
structure BrI (w0 : World) (l : List Ob) (P : List Pr) (n : Nat) (v : Value) (L : List (Pr × Value)) (D : Nat) (W : World) : Prop where
  bds : BdS w0.heap.size (ptO l) D v L W
  nil : L = [] → v = .slice none 0 0
  fst : L.map Prod.fst = P
  len : L.length ≤ n
  dn : D ≤ n
  below : Below w0.heap.size w0 W
theorem BrI.lift {w0 : World} {l : List Ob} {P : List Pr} {n : Nat} {v : Value} {L : List (Pr × Value)} {D : Nat} {W W' : World} (h : BrI w0 l P n v L D W) (hb : Below W.heap.size W W') : BrI w0 l P n v L D W' := ⟨h.bds.below hb, h.nil, h.fst, h.len, h.dn, bto h.below hb⟩
theorem BrI.more {w0 : World} {l : List Ob} {P : List Pr} {n m : Nat} {v : Value} {L : List (Pr × Value)} {D : Nat} {W : World} (h : BrI w0 l P n v L D W) (hn : n ≤ m) : BrI w0 l P m v L D W := ⟨h.bds, h.nil, h.fst, Nat.le_trans h.len hn, Nat.le_trans h.dn hn, h.below⟩
theorem accP_zero (l : List Ob) (i : Nat) (o : Ob) : accP l i o 0 = putAll [] ((l.take i).flatMap (bordO l)) := rfl
theorem accP_step (l : List Ob) (i : Nat) (o : Ob) {k : Nat} {p : Pr} (h : (sidesO o)[k]? = some p) : accP l i o (k + 1) = insP p (accP l i o k) := by
  unfold accP
  rw [List.take_add_one, h]
  exact putAll_snoc _ _ _
theorem accP_all (l : List Ob) {i : Nat} {o : Ob} (ho : l[i]? = some o) (hb : bordO l o = sidesO o) : accP l i o (sidesO o).length = putAll [] ((l.take (i + 1)).flatMap (bordO l)) := by
  unfold accP
  rw [List.take_length, List.take_add_one, ho, List.flatMap_append]
  simp only [Option.toList_some, List.flatMap_cons, List.flatMap_nil, List.append_nil]
  rw [hb, putAll_app]
theorem accP_none (l : List Ob) {i : Nat} {o : Ob} (ho : l[i]? = some o) (hb : bordO l o = []) : putAll [] ((l.take i).flatMap (bordO l)) = putAll [] ((l.take (i + 1)).flatMap (bordO l)) := by
  rw [List.take_add_one, ho, List.flatMap_append]
  simp [hb]
theorem accP_sorted (l : List Ob) (i : Nat) (o : Ob) (k : Nat) : (accP l i o k).Pairwise ltP := putAll_sorted _ _ (putAll_sorted _ _ List.Pairwise.nil)
theorem sides_n (o : Ob) : (sidesO o).length = sidesN o := by simp [sidesO]
theorem sidesN_le (o : Ob) : sidesN o ≤ o.refs.length := by unfold sidesN; (repeat' split) <;> omega
theorem bord_sound {l : List Ob} {o : Ob} (h : soundW l o = true) : bordO l o = sidesO o := by
  unfold bordO
  by_cases hk : o.kind = 2 ∨ o.kind = 3
  · unfold soundW at h
    rw [if_neg (by omega), if_pos hk] at h
    rw [if_pos ⟨hk, h⟩]
  · rw [if_neg (fun e => hk e.1)]
    unfold sidesO sidesN
    rw [if_neg (fun e => hk (.inr e)), if_neg (fun e => hk (.inl e))]
    rfl
theorem bord_not {l : List Ob} {o : Ob} (h : soundW l o = false) : bordO l o = [] := by
  unfold bordO
  by_cases hk : o.kind = 2 ∨ o.kind = 3
  · unfold soundW at h
    rw [if_neg (by omega), if_pos hk] at h
    rw [if_neg (fun e => by rw [e.2] at h; cases h)]
  · rw [if_neg (fun e => hk e.1)]
theorem side_node {l : List Ob} {o : Ob} (h : soundW l o = true) {p : Pr} (hp : p ∈ sidesO o) : isNode l p.1 = true ∧ isNode l p.2 = true := by
  rw [← bord_sound h] at hp
  exact (bordO_node hp).2.2.2
theorem row_form {W : World} {B s n : Nat} {t : TypeId} {v : Value} {xs : List Value} (h : W.ownsRow B t s v n xs) : ∃ A c, v = .slice A n c := by
  rcases h.2 with ⟨hv, hn⟩ | ⟨g, cap, cur, hv, _⟩
  · exact ⟨none, 0, by rw [hv, hn]⟩
  · exact ⟨_, _, hv⟩
set_option maxRecDepth 100000 in
set_option maxHeartbeats 16000000 in
theorem borders_any (l : List Ob) (mv : Value) (w : World) (hv : MapI w mv l) (hm : mapB l = true) (hsm : smallL l) :
    Calls Tryz.prog 10 #[.agg #[mv]] w fun e w' => ∃ v L D, e = .returned v ∧ BdS w.heap.size (ptO l) D v L w' ∧ L.map Prod.fst = bordersL l ∧ Below w.heap.size w w' := by
  have hmx : Tryz.prog.follows .mixedOrders = true := by kernel_rfl
  obtain ⟨A, c, rfl, hcl, hA⟩ := id hv.obs
  obtain ⟨w1, hw1⟩ : ∃ w1, w.alloc (.cells #[.slice A l.length c] 24) = w1 := ⟨_, rfl⟩
  have hb1 : Below w.heap.size w w1 := by rw [← hw1]; exact (Below.refl _ _).alloc (Nat.le_refl _) _
  have hx1 : w1.heap[w.heap.size]? = some (.cells #[.slice A l.length c] 24 (0, 0)) := by rw [← hw1]; exact heap_alloc_new _ _
  have d0 := (blk1 hx1).1
  have HVV := hide (rvalid12_any l _ w1 (hv.below hb1))
  have HV := hide hv
  have HM := hide hm
  have HSM := hide hsm
  have HX1 := hide hx1
  have HB1 := hide hb1
  have HA := hide hA
  have hl20 : l.length ≤ 20 := hsm.1
  clear hb1 hx1 hv hm hsm hA
  go_enter Tryz.func10, Tryz.ntmps10
  go_wp2_with fail
  clear hw1
  refine HVV.out.mono ?_
  rintro _ w2 ⟨rfl, hb2⟩
  rw [HM.out]
  have HX2 := hide (blkB hb2 HX1.out)
  have HB2 := hide (bto HB1.out hb2)
  clear HVV hb2 HX1 HB1 d0
  go_wp2_with fail
  have HB0 : Hid (BrI w l (putAll [] ((l.take 0).flatMap (bordO l))) 0 (.slice none 0 0) [] 0 w2) := hide ⟨⟨World.ownsRow_nil _ _ _ _, fun x hx => by cases hx⟩, fun _ => rfl, rfl, Nat.le_refl _, Nat.le_refl _, HB2.out⟩
  go_loopw [3, 4] (fun vo i wr => ∃ (k : Nat) (Av : Option Addr) (cv : Nat) (L : List (Pr × Value)) (D : Nat), k ≤ l.length ∧ i = .int .i64 k ∧ vo = .slice Av L.length cv ∧ Hid (BrI w l (putAll [] ((l.take k).flatMap (bordO l))) (12 * k) (.slice Av L.length cv) L D wr) ∧ Hid (wr.heap[w.heap.size]? = some (.cells #[.slice A l.length c] 24 (0, 0)))) (fun _ i _ => l.length - (intOf i).toNat)
  case atStart => exact ⟨0, none, 0, [], 0, Nat.zero_le _, rfl, rfl, HB0, HX2⟩
  case round =>
    clear HB0
    obtain ⟨k, Av, cv, L, D, hk, rfl, rfl, hbr, hbw⟩ := hrel
    have d0 := (blk1 hbw.out).1
    by_cases hlt : k < l.length
    · have k0 : (0 : Int) ≤ (k : Nat) := by omega
      have k1 : ((k : Nat) : Int) < (l.length : Nat) := by omega
      obtain ⟨o, ho⟩ : ∃ o, l[k]? = some o := ⟨_, List.getElem?_eq_getElem hlt⟩
      have hol := List.mem_of_getElem? ho
      obtain ⟨ga, oa, rfl, hga, hob⟩ := HA.out.resolve_left (by rintro rfl; simp at hlt)
      obtain ⟨rv, tv, ob0⟩ := hob k o ho
      have ob := ob0.below hga hbr.out.below
      obtain ⟨e0, e1, e2, e3, e4, e5, hrv, htv⟩ := ob
      obtain ⟨Ar, cr, rfl, _⟩ := id hrv
      obtain ⟨At, ct, rfl, _⟩ := id htv
      have HO := hide ho
      have HOL := hide hol
      have HRV := hide ob0.refs
      have HTV := hide ob0.tags
      have HBR := hide hbr.out
      have HBW := hide hbw.out
      have HLT := hide hlt
      have hnx := heap_alloc_new wr (.cells (obV o (.slice Ar o.refs.length cr) (.slice At o.tags.length ct)) 47)
      have hbx : Below wr.heap.size wr (wr.alloc (.cells (obV o (.slice Ar o.refs.length cr) (.slice At o.tags.length ct)) 47)) := (Below.refl _ _).alloc (Nat.le_refl _) _
      have HSD := hide (sides_any o (.slice Ar o.refs.length cr) (.slice At o.tags.length ct) (wr.alloc (.cells (obV o (.slice Ar o.refs.length cr) (.slice At o.tags.length ct)) 47)) (hrv.below hbx) (fun e => by
        have h1 := obB_least (mapB_obs HM.out o hol)
        rcases e with e | e <;> rw [e] at h1 <;> simp [leastK] at h1 <;> omega) (by have := (HSM.out.2 o hol).2.1; omega))
      unfold obV at hnx hbx HSD
      obtain ⟨wa, hwa⟩ : ∃ wa, wr.alloc (.cells #[.string o.id, .int .i64 o.kind, .int .i64 o.x, .int .i64 o.y, .slice Ar o.refs.length cr, .slice At o.tags.length ct] 47) = wa := ⟨_, rfl⟩
      rw [hwa] at hnx hbx HSD
      obtain ⟨f0, f1, f2, f3, f4, f5⟩ := box6 hnx
      have HNX := hide hnx
      have HBX := hide hbx
      clear ho hol hob ob0 hrv htv hbr hbw hlt hk hnx hbx hga
      go_wp2_with fail
      refine HSD.out.mono ?_
      rintro _ w3 ⟨sv, rfl, hsv, hb3⟩
      obtain ⟨n, hn⟩ : ∃ n, (sidesO o).length = n := ⟨_, rfl⟩
      rw [hn] at hsv
      obtain ⟨As, cs, rfl⟩ := row_form hsv
      have hn12 : n ≤ 12 := by
        have h1 := sides_n o
        have h2 := sidesN_le o
        have h3 := (HSM.out.2 o HOL.out).2.1
        omega
      have HN := hide hn
      have HSV := hide hsv
      have HBR3 : Hid (BrI w l (accP l k o 0) (12 * k + 0) (.slice Av L.length cv) L D w3) := hide ((HBR.out.lift (bto HBX.out hb3)).more (by omega))
      obtain ⟨b5, hb5⟩ : ∃ b5, wr.heap.size = b5 := ⟨_, rfl⟩
      obtain ⟨bs, hbs⟩ : ∃ bs, wa.heap.size = bs := ⟨_, rfl⟩
      have hk3 : KpI w3 w.heap.size (.slice (some ⟨ga, oa, none⟩) l.length c) wr.heap.size o (.slice Ar o.refs.length cr) (.slice At o.tags.length ct) (.slice As n cs) n wa.heap.size := ⟨blkB (bto HBX.out hb3) HBW.out, blkB hb3 HNX.out, hsv⟩
      rw [hb5, hbs] at hk3
      have HK3 := hide hk3
      rw [hb5]
      clear hn hsv hb3 hb5 hbs hk3 HSV HSD HNX HBX HBR HBW e0 e1 e2 e3 e4 e5 f0 f1 f2 f3 f4 f5 hwa d0
      go_wp2_with fail
      go_loopw [3, 7] (fun vo j wq => ∃ (m : Nat) (A2 : Option Addr) (c2 : Nat) (L2 : List (Pr × Value)) (D2 : Nat), m ≤ n ∧ j = .int .i64 m ∧ vo = .slice A2 L2.length c2 ∧ Hid (m = 0 ∨ soundW l o = true) ∧ Hid (BrI w l (accP l k o m) (12 * k + m) (.slice A2 L2.length c2) L2 D2 wq) ∧ Hid (KpI wq w.heap.size (.slice (some ⟨ga, oa, none⟩) l.length c) b5 o (.slice Ar o.refs.length cr) (.slice At o.tags.length ct) (.slice As n cs) n bs)) (fun _ j _ => n - (intOf j).toNat)
      case atStart => exact ⟨0, Av, cv, L, D, Nat.zero_le _, rfl, rfl, hide (.inl rfl), HBR3, HK3⟩
      case round =>
        clear HBR3 HK3
        obtain ⟨m, A2, c2, L2, D2, hmn, rfl, rfl, hor, hbr, hbw⟩ := hrel
        have HOR := hide hor.out
        have HBR := hide hbr.out
        have HKP := hide hbw.out
        obtain ⟨f0, f1, f2, f3, f4, f5⟩ := box6 HKP.out.ob
        have d0 := (blk1 HKP.out.mp).1
        have hfin : soundW l o = false ∨ m = n → accP l k o m = putAll [] ((l.take (k + 1)).flatMap (bordO l)) := fun e => by
          by_cases hs : soundW l o = true
          · have hmn2 : m = n := e.resolve_left (by rw [hs]; simp)
            have := accP_all l HO.out (bord_sound hs)
            rw [HN.out] at this
            rw [hmn2, this]
          · have h0 : m = 0 := HOR.out.resolve_right hs
            rw [h0, accP_zero]
            exact accP_none l HO.out (bord_not (by simpa using hs))
        have HFIN := hide hfin
        clear hor hbr hbw hfin
        by_cases hm2 : m < n
        · have m0 : (0 : Int) ≤ (m : Nat) := by omega
          have m1 : ((m : Nat) : Int) < (n : Nat) := by omega
          have HM2 := hide hm2
          have HSO := hide (sound13_any l _ HM.out (rankK o.kind) o (.slice Ar o.refs.length cr) (.slice At o.tags.length ct) wr (Nat.le_refl _) HOL.out (HV.out.below HBR.out.below) (HRV.out.below HBR.out.below) (HTV.out.below HBR.out.below))
          unfold obV at HSO
          clear hmn hm2
          go_wp2_with fail
          refine HSO.out.mono ?_
          rintro _ w4 ⟨rfl, hb4⟩
          have HBR4 := hide (HBR.out.lift hb4)
          have HKP4 := hide (HKP.out.below hb4)
          clear HSO hb4 HBR HKP f0 f1 f2 f3 f4 f5 d0
          obtain ⟨S, hS⟩ : ∃ S, soundW l o = S := ⟨_, rfl⟩
          rw [hS]
          have HS := hide hS
          clear hS
          cases S with
          | false =>
            have HE : Hid (BrI w l (putAll [] ((l.take (k + 1)).flatMap (bordO l))) (12 * (k + 1)) (.slice A2 L2.length c2) L2 D2 w4) := hide (by
              rw [← HFIN.out (.inl HS.out)]
              exact HBR4.out.more (by have := HM2.out; omega))
            have HBE := hide HKP4.out.mp
            go_wp2_with fail
            refine ⟨⟨k + 1, A2, c2, L2, D2, HLT.out, by go_num, rfl, HE, HBE⟩, ?_⟩
            have := HLT.out
            simp [intOf]; omega
          | true =>
            obtain ⟨⟨pa, pb⟩, hp⟩ : ∃ p, (sidesO o)[m]? = some p := ⟨_, List.getElem?_eq_getElem (by rw [HN.out]; exact HM2.out)⟩
            have hnd := side_node HS.out (List.mem_of_getElem? hp)
            obtain ⟨gs, cs2, hsv⟩ := row_at2 HKP4.out.sd (by have := HM2.out; omega)
            rw [Value.slice.injEq] at hsv
            obtain ⟨rfl, _, rfl⟩ := hsv
            have HP := hide hp
            have hlen := HBR4.out.len
            have hdn := HBR4.out.dn
            have HPT : Hid (∀ W, Below w4.heap.size w4 W → Calls Tryz.prog 48 #[.slice A2 L2.length c2, .agg #[.slice (some ⟨ga, oa, none⟩) l.length c], .agg #[.string pa, .string pb], .string o.id] W fun e w' => ∃ v' L', e = .returned v' ∧ BrI w l (accP l k o (m + 1)) (12 * k + (m + 1)) v' L' (D2 + 1) w' ∧ KpI w' w.heap.size (.slice (some ⟨ga, oa, none⟩) l.length c) b5 o (.slice Ar o.refs.length cr) (.slice At o.tags.length ct) (.slice (some ⟨gs, 0, none⟩) n cs) n bs) := hide (fun W hW => (put13_any l _ D2 _ L2 pa pb o.id w W HV.out HM.out (bto HBR4.out.below hW) (HBR4.out.bds.below hW) HBR4.out.nil (by have := HM2.out; omega) (by have := HM2.out; omega) (by rw [HBR4.out.fst]; exact accP_sorted _ _ _ _) hnd.1 hnd.2).mono (by
              rintro e w' ⟨v', L', rfl, h1, h2, h3, h4⟩
              rw [HBR4.out.fst, ← accP_step l k o HP.out] at h2
              have h5 : L'.length = (accP l k o (m + 1)).length := by rw [← h2, List.length_map]
              have h6 := insP_len (pa, pb) (accP l k o m)
              rw [← accP_step l k o HP.out, ← h5, ← HBR4.out.fst, List.length_map] at h6
              exact ⟨v', L', rfl, ⟨h1, fun e => by rw [e, accP_step l k o HP.out] at h2; exact absurd h2.symm (insP_ne _ _), h2, by omega, by omega, h3⟩, (HKP4.out.below hW).grow (HBR4.out.bds.below hW).row h4⟩))
            clear hp hnd hlen hdn
            go_wp2_with fail
            refine wp_region_anyM (fun W => KpI W w.heap.size (.slice (some ⟨ga, oa, none⟩) l.length c) b5 o (.slice Ar o.refs.length cr) (.slice At o.tags.length ct) (.slice (some ⟨gs, 0, none⟩) n cs) n bs) 9 hmx ?_
            have hB := below_drew w4
            have hM := HKP4.out.below hB
            clear HKP4 HBR4
            generalize w4.drew = wd at *
            simp only [List.size_toArray, List.length_cons, List.length_nil, Nat.reduceAdd]
            refine wpAnyM_take (i := 0) (v := .slice A2 L2.length c2) rfl (by kernel_rfl) (by kernel_rfl) (by kernel_rfl) (by kernel_rfl) (fun _ _ _ h => h) (.inl ⟨by kernel_rfl, fun w hm => rfl⟩) ?_
            refine wpAnyM_take (i := 1) (v := .agg #[.slice (some ⟨ga, oa, none⟩) l.length c]) rfl (by kernel_rfl) (by kernel_rfl) (by kernel_rfl) (by kernel_rfl) (fun _ _ _ h => h) (.inl ⟨by kernel_rfl, fun w hm => by have m0 := (blk1 hm.mp).1; go_simp⟩) ?_
            refine wpAnyM_take (i := 2) (v := .slice (some ⟨gs, 0, none⟩) n cs) rfl (by kernel_rfl) (by kernel_rfl) (by kernel_rfl) (by kernel_rfl) (fun _ _ _ h => h) (.inl ⟨by kernel_rfl, fun w hm => rfl⟩) ?_
            refine wpAnyM_take (i := 3) (v := .int .i64 m) rfl (by kernel_rfl) (by kernel_rfl) (by kernel_rfl) (by kernel_rfl) (fun _ _ _ h => h) (.inl ⟨by kernel_rfl, fun w hm => by go_simp⟩) ?_
            refine wpAnyM_take (i := 4) (v := .pointer (some ⟨gs, m * 2, none⟩)) rfl (by kernel_rfl) (by kernel_rfl) (by kernel_rfl) (by kernel_rfl) (fun _ _ _ h => h) (.inl ⟨by kernel_rfl, fun w hm => by go_simp⟩) ?_
            refine wpAnyM_take (i := 5) (v := .agg #[.string pa, .string pb]) rfl (by kernel_rfl) (by kernel_rfl) (by kernel_rfl) (by kernel_rfl) (fun _ _ _ h => h) (.inl ⟨by kernel_rfl, fun w hm => by have m1 := own_cell hm.sd _ _ (flatP_get _ HP.out).1; have m2 := own_cell hm.sd _ _ (flatP_get _ HP.out).2; go_simp⟩) ?_
            refine wpAnyM_take (i := 6) (v := .pointer (some ⟨b5, 0, none⟩)) rfl (by kernel_rfl) (by kernel_rfl) (by kernel_rfl) (by kernel_rfl) (fun _ _ _ h => h) (.inl ⟨by kernel_rfl, fun w hm => by go_simp⟩) ?_
            refine wpAnyM_take (i := 7) (v := .string o.id) rfl (by kernel_rfl) (by kernel_rfl) (by kernel_rfl) (by kernel_rfl) (fun _ _ _ h => h) (.inl ⟨by kernel_rfl, fun w hm => by have m3 := (box6 hm.ob).1; go_simp⟩) ?_
            refine wpAnyM_ready (rs := [8]) (by kernel_rfl) (by simp) (hM) ?_
            refine AllReadyM.cons rfl (fun K' hK => ?_) (AllReadyM.nil)
            rw [if_pos (by kernel_rfl)]
            go_simp
            go_at_call 48
            refine (HPT.out _ hB).mono ?_
            rintro _ wu ⟨v9, L9, rfl, hbr9, hM⟩
            obtain ⟨A9, c9, rfl⟩ := row_form hbr9.bds.row
            refine hK _ _ ?_
            refine wpAnyM_ready (rs := [9]) (by kernel_rfl) (by simp) (hM) ?_
            refine AllReadyM.cons rfl (fun K' hK => ?_) (AllReadyM.nil)
            rw [if_pos (by kernel_rfl)]
            go_simp
            refine hK _ _ ?_
            refine wpAnyM_done (by kernel_rfl) (by kernel_rfl) ?_ _
            have HE := hide hbr9
            have HKE := hide hM
            clear hbr9 hM hB
            go_simp
            go_wp2_with fail
            refine ⟨⟨m + 1, A9, c9, L9, D2 + 1, HM2.out, by go_num, rfl, hide (.inr HS.out), HE, HKE⟩, ?_⟩
            have := HM2.out
            simp [intOf]; omega
        · obtain rfl : m = n := by omega
          have m1 : ¬ ((m : Nat) : Int) < (m : Nat) := by omega
          have HE : Hid (BrI w l (putAll [] ((l.take (k + 1)).flatMap (bordO l))) (12 * (k + 1)) (.slice A2 L2.length c2) L2 D2 wr) := hide (by
            rw [← HFIN.out (.inr rfl)]
            exact HBR.out.more (by omega))
          have HBE := hide HKP.out.mp
          go_wp2_with fail
          refine ⟨⟨k + 1, A2, c2, L2, D2, HLT.out, by go_num, rfl, HE, HBE⟩, ?_⟩
          have := HLT.out
          simp [intOf]; omega
    · obtain rfl : k = l.length := by omega
      have k1 : ¬ ((l.length : Nat) : Int) < (l.length : Nat) := by omega
      have HE := hide hbr.out
      clear hbr hbw
      go_wp2_with fail
      go_ret
      exact ⟨_, rfl, L, ⟨D, HE.out.bds⟩, by rw [HE.out.fst, List.take_length]; rfl, HE.out.below⟩
end Go.Proofs.YtfkgjbdeicggaaaGreat
