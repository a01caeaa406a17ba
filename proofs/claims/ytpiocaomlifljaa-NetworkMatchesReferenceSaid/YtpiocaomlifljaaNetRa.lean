/-
  The reference's kind and Sound, walked.
-/
import Derived.Test.YtpiocaomlifljaaNetSb
import Derived.Test.YtpiocaomlifljaaPlainU
namespace Go.Proofs.Ytpiocaomlifljaa
open Go.RowKit Go.Proofs.PlLex Go.Proofs.PlNet

set_option maxRecDepth 100000 in
set_option maxHeartbeats 8000000 in
theorem kind_any (o : Ob) (rv tv : Value) (i : Nat) (w : World) :
    Calls Try.prog 51 #[.agg (obV o rv tv), .int .i64 i] w fun e w' => e = .returned (.int .i64 (kindR o.kind i)) ∧ Below w.heap.size w w' := by
  unfold kindR obV
  by_cases h4 : o.kind = 4
  · rw [if_pos (.inl h4), h4]
    go_enter Try.func51, Try.ntmps51
    go_wp2_with fail
    go_ret
    exact ⟨rfl, (Below.refl _ _).alloc (Nat.le_refl _) _⟩
  · have q4 : (o.kind == 4) = false := beq_eq_false_iff_ne.2 h4
    by_cases h5 : o.kind = 5
    · rw [h5] at *
      by_cases hi : i = 1
      · subst hi
        rw [if_neg (by omega)]
        go_enter Try.func51, Try.ntmps51
        go_wp2_with fail
        go_ret
        exact ⟨rfl, (Below.refl _ _).alloc (Nat.le_refl _) _⟩
      · rw [if_pos (by omega)]
        have hi2 : ((i : Int) == 1) = false := beq_eq_false_iff_ne.2 (by omega)
        have hi3 : ((i : Int) != 1) = true := by simp [bne, hi2]
        have hi4 : ¬ (i : Int) = 1 := by omega
        go_enter Try.func51, Try.ntmps51
        go_wp2_with fail
        go_ret
        exact ⟨rfl, (Below.refl _ _).alloc (Nat.le_refl _) _⟩
    · have q5 : (o.kind == 5) = false := beq_eq_false_iff_ne.2 h5
      rw [if_neg (by omega)]
      go_enter Try.func51, Try.ntmps51
      go_wp2_with fail
      go_ret
      exact ⟨rfl, (Below.refl _ _).alloc (Nat.le_refl _) _⟩

theorem stepS_none {l : List Ob} {k : Int} {i : Nat} {s : BA} (h : findI l s = -1) : stepS l k i s = false := by
  unfold findI at h
  unfold stepS
  cases e : findO l s with
  | none => rfl
  | some p =>
    obtain ⟨h1, h2⟩ := findO_some e
    cases e2 : findN s l with
    | none =>
      exfalso
      have := findN_none s l e2 p h1
      exact this h2
    | some j => rw [e2] at h; simp at h
theorem stepS_some {l : List Ob} {k : Int} {i j : Nat} {s : BA} (h : findN s l = some j) : ∃ p, l[j]? = some p ∧ p.id = s ∧ stepS l k i s = (decide (p.kind = kindR k i) && soundW l p) := by
  obtain ⟨p, h1, h2, _, h3⟩ := findN_some s l j h
  exact ⟨p, h1, h2, by unfold stepS; rw [h3]⟩
theorem findI_cases (l : List Ob) (s : BA) : findI l s = -1 ∨ ∃ j : Nat, findN s l = some j ∧ findI l s = j ∧ j < l.length := by
  unfold findI
  cases e : findN s l with
  | none => exact .inl rfl
  | some j =>
    obtain ⟨_, _, _, h, _⟩ := findN_some s l j e
    exact .inr ⟨j, rfl, rfl, h⟩
set_option maxRecDepth 100000 in
set_option maxHeartbeats 16000000 in
theorem sound13_any (l : List Ob) (v : Value) (hm : mapB l = true) (n : Nat) : ∀ (o : Ob) (rv tv : Value) (w : World), rankK o.kind ≤ n → o ∈ l → MapI w v l → StS w rv o.refs → TgS w tv o.tags →
    Calls Try.prog 24 #[.agg #[v], .agg (obV o rv tv)] w fun e w' => e = .returned (.bool (soundW l o)) ∧ Below w.heap.size w w' := by
  induction n using Nat.strongRecOn with
  | ind n ih =>
  intro o rv tv w hn ho hv hr ht
  have hob := mapB_obs hm o ho
  obtain ⟨R, hR⟩ : ∃ R, soundW l o = R := ⟨_, rfl⟩
  have HR := hide ((refS_sound (mapB_uniq hm) hob).trans hR)
  rw [hR]
  have HM := hide hm
  have HOB := hide hob
  have HI : Hid (∀ (p : Ob) (rv tv : Value) (w' : World), rankK p.kind < rankK o.kind → p ∈ l → MapI w' v l → StS w' rv p.refs → TgS w' tv p.tags → Calls Try.prog 24 #[.agg #[v], .agg (obV p rv tv)] w' fun e w2 => e = .returned (.bool (soundW l p)) ∧ Below w'.heap.size w' w2) :=
    hide (fun p rv tv w' hp hpl h1 h2 h3 => ih (rankK p.kind) (by omega) p rv tv w' (Nat.le_refl _) hpl h1 h2 h3)
  have HV := hide hv
  have HOK := hide (hv.ok o ho)
  have HLN := hide hv.len
  have hkl := (hv.ok o ho).2.1
  obtain ⟨A, c, rfl, _, hA⟩ := id hv.obs
  obtain ⟨Ar, cr, rfl, _, hAr⟩ := id hr
  obtain ⟨At, ct, rfl, _⟩ := id ht
  have HA := hide hA
  have HAR := hide hAr
  obtain ⟨wo, hwo⟩ : ∃ wo, (w.alloc (.cells #[.slice A l.length c] 24)).alloc (.cells #[.string o.id, .int .i64 o.kind, .int .i64 o.x, .int .i64 o.y, .slice Ar o.refs.length cr, .slice At o.tags.length ct] 42) = wo := ⟨_, rfl⟩
  have hbo : Below w.heap.size w wo := by rw [← hwo]; exact ((Below.refl _ _).alloc (Nat.le_refl _) _).alloc (by simp) _
  have hmb : wo.heap[w.heap.size]? = some (.cells #[.slice A l.length c] 24 (0, 0)) := by
    rw [← hwo]
    exact blkB ((Below.refl _ _).alloc (Nat.le_refl _) _) (heap_alloc_new w _)
  have hbb : wo.heap[w.heap.size + 1]? = some (.cells #[.string o.id, .int .i64 o.kind, .int .i64 o.x, .int .i64 o.y, .slice Ar o.refs.length cr, .slice At o.tags.length ct] 42 (0, 0)) := by
    rw [← hwo]
    simpa using heap_alloc_new (w.alloc (.cells #[.slice A l.length c] 24)) (.cells #[.string o.id, .int .i64 o.kind, .int .i64 o.x, .int .i64 o.y, .slice Ar o.refs.length cr, .slice At o.tags.length ct] 42)
  have HBO := hide hbo
  have HMB := hide hmb
  have HBB := hide hbb
  have hz : wo.heap.size = w.heap.size + 2 := by rw [← hwo]; simp
  clear ih hR hm hob hv hr ht hA hAr hbo hmb hbb hn ho hz
  unfold obV
  go_enter Try.func24, Try.ntmps24
  go_wp2_with fail
  clear hwo
  go_loopw [5] (fun i wr => ∃ k : Nat, k ≤ o.refs.length ∧ i = .int .i64 k ∧ Hid (refS l o.kind 0 (o.refs.take k) = true) ∧ Hid (Below wo.heap.size wo wr)) (fun i _ => o.refs.length - (intOf i).toNat)
  case atStart => exact ⟨0, Nat.zero_le _, rfl, rfl, Below.refl _ _⟩
  case round =>
    obtain ⟨k, hk, rfl, hs, hb⟩ := hrel
    have D4 : ∀ u : Gls wo, u.w.cell? ⟨w.heap.size + 1, 4, none⟩ = some (.slice Ar o.refs.length cr) := fun u => cell_of_row u.w _ 4 _ _ _ (blkB u.2 HBB.out)
    have d4 := D4 ⟨_, hb.out⟩
    change wr.cell? _ = _ at d4
    by_cases hlt : k < o.refs.length
    · obtain ⟨g, off, rfl, hg, hp⟩ := HAR.out.resolve_left (by intro e; rw [e] at hlt; simp at hlt)
      have hx := List.getElem?_eq_getElem hlt
      have hsn := refS_snoc l o.kind o.refs 0 k _ hx
      have hct := refS_cut l o.kind o.refs 0 k _ hx
      generalize o.refs[k] = s at *
      have C0 : ∀ u : Gls wo, u.w.cell? ⟨g, off + k, none⟩ = some (.string s) := fun u => ((bto HBO.out u.2).cell (p := ⟨g, _, none⟩) hg).trans (hp k s hx)
      have E0 : ∀ u : Gls wo, u.w.cell? ⟨w.heap.size, 0, none⟩ = some (.slice A l.length c) := fun u => (blk1 (blkB u.2 HMB.out)).1
      have FF := hide (fun u : Gls wo => find13_any l s _ u.w (HV.out.below (bto HBO.out u.2)) HM.out)
      have YN : Nonempty (Gls wo) := ⟨⟨_, hb.out⟩⟩
      have k0 : (0 : Int) ≤ k := by omega
      have k1 : (k : Int) < o.refs.length := by omega
      have HSN := hide hsn
      have HCT := hide hct
      have HL := hide hlt
      have HMS := hide (show o.refs.length - (k + 1) < o.refs.length - k from by omega)
      have hbd := bto hb.out (below_drew wr)
      have HS := hide hs.out
      have HX := hide hx
      clear hsn hct hlt hx hb hs hp
      rcases findI_cases l s with hf | ⟨j, hf1, hf, hjl⟩
      · have HZ := hide (stepS_none (k := o.kind) (i := 0 + k) hf)
        rw [hf] at FF
        clear hf
        go_wp2_with fail
        refine wp_region_quietW (J := Gls wo) Gls.w ⟨_, hbd⟩ rfl (by kernel_rfl) (by kernel_rfl) ?_
        repeat (go_big_quiet_step (((with_reducible refine (FF.out _).mono ?_); rintro _ w8 ⟨rfl, b8⟩; exact ⟨rfl, Gls.go _ b8⟩)))
        refine wpQuiet_nil ?_
        rintro w9 ⟨u, rfl⟩
        clear FF d4
        have hbd := bto u.2 (below_drew u.w)
        go_wp2_with fail
        refine wp_region_quietW (J := Gls wo) Gls.w ⟨_, hbd⟩ rfl (by kernel_rfl) (by kernel_rfl) ?_
        repeat (go_big_quiet_step (fail))
        refine wpQuiet_nil ?_
        rintro w9 ⟨u2, rfl⟩
        have HB := hide (bto HBO.out u2.2)
        go_wp2_with fail
        go_ret
        refine ⟨ret_bool ?_, HB.out⟩
        rw [← HR.out, HCT.out, HZ.out]
        simp
      · obtain ⟨g2, o2, rfl, hg2, hp2⟩ := HA.out.resolve_left (by intro e; rw [e] at hjl; simp at hjl)
        obtain ⟨p, hpj, hpid, hst⟩ := stepS_some (k := o.kind) (i := 0 + k) hf1
        clear hpid
        obtain ⟨rvp, tvp, hoa⟩ := hp2 j p hpj
        have hpl := List.mem_of_getElem? hpj
        obtain ⟨Arp, crp, hrp, _⟩ := id hoa.refs
        obtain ⟨Atp, ctp, htp, _⟩ := id hoa.tags
        subst hrp
        subst htp
        have hne1 : o.kind ≠ 1 := by
          intro e
          have h2 := HOB.out
          unfold obB tailB at h2
          rw [if_pos e] at h2
          simp only [Bool.and_eq_true, decide_eq_true_eq] at h2
          have := HL.out
          omega
        have hrk := rank_less (k := o.kind) (i := k) hne1
        rw [Nat.zero_add] at hst
        have HOA := hide hoa
        have bq : ∀ u : Gls wo, ObAt u.w g2 (o2 + j * 6) p (.slice Arp p.refs.length crp) (.slice Atp p.tags.length ctp) := fun u => HOA.out.below hg2 (bto HBO.out u.2)
        have X0 := fun u : Gls wo => (bq u).c0
        have X1 := fun u : Gls wo => (bq u).c1
        have X2 := fun u : Gls wo => (bq u).c2
        have X3 := fun u : Gls wo => (bq u).c3
        have X4 := fun u : Gls wo => (bq u).c4
        have X5 := fun u : Gls wo => (bq u).c5
        have D0 : ∀ u : Gls wo, u.w.cell? ⟨w.heap.size + 1, 0, none⟩ = some (.string o.id) := fun u => cell_of_row u.w _ 0 _ _ _ (blkB u.2 HBB.out)
        have D1 : ∀ u : Gls wo, u.w.cell? ⟨w.heap.size + 1, 1, none⟩ = some (.int .i64 o.kind) := fun u => cell_of_row u.w _ 1 _ _ _ (blkB u.2 HBB.out)
        have D2 : ∀ u : Gls wo, u.w.cell? ⟨w.heap.size + 1, 2, none⟩ = some (.int .i64 o.x) := fun u => cell_of_row u.w _ 2 _ _ _ (blkB u.2 HBB.out)
        have D3 : ∀ u : Gls wo, u.w.cell? ⟨w.heap.size + 1, 3, none⟩ = some (.int .i64 o.y) := fun u => cell_of_row u.w _ 3 _ _ _ (blkB u.2 HBB.out)
        have D5 : ∀ u : Gls wo, u.w.cell? ⟨w.heap.size + 1, 5, none⟩ = some (.slice At o.tags.length ct) := fun u => cell_of_row u.w _ 5 _ _ _ (blkB u.2 HBB.out)
        have FK := hide (fun u : Gls wo => kind_any o (.slice (some ⟨g, off, none⟩) o.refs.length cr) (.slice At o.tags.length ct) k u.w)
        have FS : Hid (p.kind = kindR o.kind k → ∀ u : Gls wo, Calls Try.prog 24 #[.agg #[.slice (some ⟨g2, o2, none⟩) l.length c], .agg (obV p (.slice Arp p.refs.length crp) (.slice Atp p.tags.length ctp))] u.w fun e w2 => e = .returned (.bool (soundW l p)) ∧ Below u.w.heap.size u.w w2) :=
          hide (fun e u => HI.out p _ _ u.w (by rw [e]; exact hrk) hpl (HV.out.below (bto HBO.out u.2)) (HOA.out.refs.below (bto HBO.out u.2)) (HOA.out.tags.below (bto HBO.out u.2)))
        unfold obV at FK FS
        generalize kindR o.kind k = KR at *
        have j0 : (0 : Int) ≤ j := by omega
        have j1 : (j : Int) < l.length := by omega
        have j2 : ¬ (j : Int) < 0 := by omega
        have j3 : decide ((j : Int) < 0) = false := decide_eq_false j2
        have HST := hide hst
        rw [hf] at FF
        clear hf hf1 hjl hp2 hpj hst hoa hpl hrk hne1 bq
        go_wp2_with fail
        refine wp_region_quietW (J := Gls wo) Gls.w ⟨_, hbd⟩ rfl (by kernel_rfl) (by kernel_rfl) ?_
        repeat (go_big_quiet_step (((with_reducible refine (FF.out _).mono ?_); rintro _ w8 ⟨rfl, b8⟩; exact ⟨rfl, Gls.go _ b8⟩)))
        refine wpQuiet_nil ?_
        rintro w9 ⟨u, rfl⟩
        clear FF d4 hbd
        have hbd := bto u.2 (below_drew u.w)
        by_cases he : p.kind = KR
        · have FS2 := hide (FS.out he)
          obtain ⟨Q, hQ⟩ : ∃ Q, soundW l p = Q := ⟨_, rfl⟩
          rw [hQ] at FS2
          have HQ := hide hQ
          subst he
          clear FS hQ
          cases Q with
          | true =>
            go_wp2_with fail
            refine wp_region_quietW (J := Gls wo) Gls.w ⟨_, hbd⟩ rfl (by kernel_rfl) (by kernel_rfl) ?_
            repeat (go_big_quiet_step (first | ((with_reducible refine (FK.out _).mono ?_); rintro _ w8 ⟨rfl, b8⟩; exact ⟨rfl, Gls.go _ b8⟩) | ((with_reducible refine (FS2.out _).mono ?_); rintro _ w8 ⟨rfl, b8⟩; exact ⟨rfl, Gls.go _ b8⟩)))
            refine wpQuiet_nil ?_
            rintro w9 ⟨u2, rfl⟩
            have HB := hide (show Below wo.heap.size wo u2.w from u2.2)
            go_wp2_with fail
            refine ⟨⟨k + 1, HL.out, by go_num, hide (by rw [HSN.out, HS.out, Nat.zero_add, HST.out, HQ.out]; simp), HB⟩, ?_⟩
            have := HMS.out
            simp [intOf]; omega
          | false =>
            go_wp2_with fail
            refine wp_region_quietW (J := Gls wo) Gls.w ⟨_, hbd⟩ rfl (by kernel_rfl) (by kernel_rfl) ?_
            repeat (go_big_quiet_step (first | ((with_reducible refine (FK.out _).mono ?_); rintro _ w8 ⟨rfl, b8⟩; exact ⟨rfl, Gls.go _ b8⟩) | ((with_reducible refine (FS2.out _).mono ?_); rintro _ w8 ⟨rfl, b8⟩; exact ⟨rfl, Gls.go _ b8⟩)))
            refine wpQuiet_nil ?_
            rintro w9 ⟨u2, rfl⟩
            have HB := hide (bto HBO.out u2.2)
            go_wp2_with fail
            go_ret
            refine ⟨ret_bool ?_, HB.out⟩
            rw [← HR.out, HCT.out, Nat.zero_add, HST.out, HQ.out]
            simp
        · have q1 : (p.kind == KR) = false := beq_eq_false_iff_ne.2 he
          have q2 : (p.kind != KR) = true := by simp [bne, q1]
          have HE := hide he
          clear FS
          go_wp2_with fail
          refine wp_region_quietW (J := Gls wo) Gls.w ⟨_, hbd⟩ rfl (by kernel_rfl) (by kernel_rfl) ?_
          repeat (go_big_quiet_step (((with_reducible refine (FK.out _).mono ?_); rintro _ w8 ⟨rfl, b8⟩; exact ⟨rfl, Gls.go _ b8⟩)))
          refine wpQuiet_nil ?_
          rintro w9 ⟨u2, rfl⟩
          have HB := hide (bto HBO.out u2.2)
          go_wp2_with fail
          go_ret
          refine ⟨ret_bool ?_, HB.out⟩
          rw [← HR.out, HCT.out, Nat.zero_add, HST.out, decide_eq_false HE.out]
          simp
    · have hz : R = true := by rw [← HR.out, ← hs.out, List.take_of_length_le (by omega)]
      have HZ := hide hz
      have HB := hide (bto HBO.out hb.out)
      have k1 : ¬ (k : Int) < o.refs.length := by omega
      clear hz hs hb
      go_wp2_with fail
      go_ret
      exact ⟨ret_bool HZ.out.symm, HB.out⟩
end Go.Proofs.Ytpiocaomlifljaa
