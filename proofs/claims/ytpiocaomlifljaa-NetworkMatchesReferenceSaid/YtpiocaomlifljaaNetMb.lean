/-
  The reference's refs, Valid of an object, Valid of a map, walked.
-/
import Derived.Test.YtpiocaomlifljaaNetMa
namespace Go.Proofs.Ytpiocaomlifljaa
open Go.RowKit Go.Proofs.PlLex Go.Proofs.PlNet Go.Proofs.PlMap
attribute [local go_sem] run_makeMap

/-- How many references the reference wants of a kind. -/
def lenB (k : Int) (n : Nat) : Bool := if k = 1 then decide (n = 0) else if k = 2 then decide (2 ≤ n) else if k = 3 then decide (3 ≤ n) else if k = 4 then decide (1 ≤ n) else decide (n = 3)
def rrefsB (o : Ob) : Bool := decide (o.refs.length ≤ 2000) && (refsB o.kind [] ⟨#[]⟩ o.refs && lenB o.kind o.refs.length)
def lastR (l : List BA) (k : Nat) : BA := if k = 0 then ⟨#[]⟩ else l.getD (k - 1) ⟨#[]⟩
theorem lastR_next {l : List BA} {k : Nat} {s : BA} (h : l[k]? = some s) : lastR l (k + 1) = s := by
  unfold lastR
  rw [if_neg (by omega), show k + 1 - 1 = k by omega, List.getD_eq_getElem?_getD, h]
  rfl
theorem lastR_at {l : List BA} {k : Nat} (h0 : ¬ k = 0) (h : k ≤ l.length) : l[k - 1]? = some (lastR l k) := by
  have hlt : k - 1 < l.length := by omega
  unfold lastR
  rw [if_neg h0, List.getD_eq_getElem?_getD, List.getElem?_eq_getElem hlt]
  rfl
theorem beq_flip (a b : List UInt8) : (a == b) = (b == a) := by
  rw [Bool.eq_iff_iff, beq_iff_eq, beq_iff_eq]; exact eq_comm
theorem wrong_eq (K : Int) (S : List BA) (refs : List BA) (k : Nat) (s : BA) : wrongB K S (lastR refs k) s = (!name s.data.toList || ((K == 2) && (decide (0 < k) && ((lastR refs k).toList == s.toList)) || (K == 3) && hasS s S)) := by
  unfold wrongB
  rw [beq_flip s.toList]
  cases hn : name s.data.toList with
  | false => simp
  | true =>
    by_cases hk : k = 0
    · subst hk
      obtain ⟨_, h2⟩ := name_first hn
      have : ((lastR refs 0).toList == s.toList) = false := by rw [beq_flip]; exact h2
      rw [this]
      simp
    · rw [decide_eq_true (show 0 < k by omega)]
      simp
def Uss (w3 : World) (bm : Nat) (S : List BA) : Type := {W : World // UsI w3 bm S W}
def Uss.w {w3 : World} {bm : Nat} {S : List BA} (u : Uss w3 bm S) : World := u.1
theorem Uss.go {w3 : World} {bm : Nat} {S : List BA} (u : Uss w3 bm S) {w8 : World} (hb : Below u.w.heap.size u.w w8) : ∃ u' : Uss w3 bm S, w8 = u'.w := ⟨⟨w8, u.2.lift hb⟩, rfl⟩
theorem bool_of {b : Bool} : ∃ c : Bool, b = c := ⟨_, rfl⟩
set_option maxRecDepth 100000 in
set_option maxHeartbeats 16000000 in
theorem rrefs_any (o : Ob) (rv tv : Value) (w : World) (hr : StS w rv o.refs) (ht : TgS w tv o.tags) (hs : ∀ s ∈ o.refs, s.size ≤ 100000) :
    Calls Try.prog 85 #[.agg (obV o rv tv)] w fun e w' => e = .returned (.bool (rrefsB o)) ∧ Below w.heap.size w w' := by
  obtain ⟨R, hR⟩ : ∃ R, rrefsB o = R := ⟨_, rfl⟩
  rw [hR]
  obtain ⟨A, c, rfl, _, hA⟩ := hr
  obtain ⟨At, ct, rfl, _⟩ := ht
  have HA := hide hA
  have HS := hide hs
  clear hA hs
  unfold obV
  by_cases h2k : 2000 < o.refs.length
  · have HZ := hide (show R = false from by rw [← hR]; unfold rrefsB; rw [decide_eq_false (by omega)]; rfl)
    have h61 : (2000 : Int) < o.refs.length := by omega
    clear hR
    go_enter Try.func85, Try.ntmps85
    go_wp2_with fail
    go_ret
    exact ⟨ret_bool HZ.out.symm, (Below.refl _ _).alloc (Nat.le_refl _) _⟩
  · have HR : Hid ((refsB o.kind [] (lastR o.refs 0) (o.refs.drop 0) && lenB o.kind o.refs.length) = R) := by
      unfold rrefsB at hR
      rw [decide_eq_true (show o.refs.length ≤ 2000 by omega), Bool.true_and] at hR
      exact hide hR
    have h61 : ¬ (2000 : Int) < o.refs.length := by omega
    obtain ⟨wo, hwo⟩ : ∃ wo, w.alloc (.cells #[.string o.id, .int .i64 o.kind, .int .i64 o.x, .int .i64 o.y, .slice A o.refs.length c, .slice At o.tags.length ct] 42) = wo := ⟨_, rfl⟩
    have HBO : Hid (Below w.heap.size w wo) := by rw [← hwo]; exact (Below.refl _ _).alloc (Nat.le_refl _) _
    have hbl : wo.heap[w.heap.size]? = some (.cells #[.string o.id, .int .i64 o.kind, .int .i64 o.x, .int .i64 o.y, .slice A o.refs.length c, .slice At o.tags.length ct] 42 (0, 0)) := by rw [← hwo]; exact heap_alloc_new _ _
    have HBL := hide hbl
    obtain ⟨d0, d1, d2, d3, d4, d5⟩ := box6 hbl
    obtain ⟨wm, hwm⟩ : ∃ wm, wo.alloc (.map #[] 0) = wm := ⟨_, rfl⟩
    have hus := UsI.made wo
    rw [hwm] at hus
    have HUS := hide hus
    have HSZ : Hid (wo.heap.size = w.heap.size + 1) := by rw [← hwo]; exact hide (by simp)
    clear hR hus hbl
    go_enter Try.func85, Try.ntmps85
    go_wp2_with fail
    clear hwo hwm d0 d1 d2 d3 d4 d5
    generalize wo.heap.size = bm at *
    go_loopw [5] (fun i wr => ∃ (k : Nat) (S : List BA), k ≤ o.refs.length ∧ i = .int .i64 k ∧ Hid (S.length = k) ∧ Hid (UsI wo bm S wr) ∧ Hid ((refsB o.kind S (lastR o.refs k) (o.refs.drop k) && lenB o.kind o.refs.length) = R)) (fun i _ => o.refs.length - (intOf i).toNat)
    case atStart => exact ⟨0, [], Nat.zero_le _, rfl, rfl, HUS, HR⟩
    case round =>
      obtain ⟨k, S, hk, rfl, hsl, hus, hr⟩ := hrel
      by_cases hlt : k < o.refs.length
      · obtain ⟨g, off, rfl, hg, hp⟩ := HA.out.resolve_left (by intro e; rw [e] at hlt; simp at hlt)
        have hx := List.getElem?_eq_getElem hlt
        have hsz := HS.out _ (List.getElem_mem hlt)
        have hr2 := hr.out
        rw [List.drop_eq_getElem_cons hlt, refsB, wrong_eq] at hr2
        generalize o.refs[k] = s at *
        have C0 : ∀ u : Uss wo bm S, u.w.cell? ⟨g, off + k, none⟩ = some (.string s) := fun u => ((bto HBO.out u.2.below).cell (p := ⟨g, _, none⟩) hg).trans (hp k s hx)
        have D1 : ∀ u : Uss wo bm S, u.w.cell? ⟨w.heap.size, 1, none⟩ = some (.int .i64 o.kind) := fun u => (box6 (blkB u.2.below HBL.out)).2.1
        have D4 : ∀ u : Uss wo bm S, u.w.cell? ⟨w.heap.size, 4, none⟩ = some (.slice (some ⟨g, off, none⟩) o.refs.length c) := fun u => (box6 (blkB u.2.below HBL.out)).2.2.2.2.1
        have P0 : 0 < k → ∀ u : Uss wo bm S, u.w.cell? ⟨g, off + (k - 1), none⟩ = some (.string (lastR o.refs k)) := fun h u => ((bto HBO.out u.2.below).cell (p := ⟨g, _, none⟩) hg).trans (hp (k - 1) _ (lastR_at (by omega) hk))
        have HN := hide (fun u : Uss wo bm S => rname_any s u.w (Nat.le_trans hsz (by unfold maxLen; omega)))
        have LK : ∀ u : Uss wo bm S, (Instr.lookup 51 (.map (some bm)) (.string s) false).run Try.prog u.w = .ok (.bool (hasS s S)) u.w := fun u => UsI.look u.2 s hsz
        have YN : Nonempty (Uss wo bm S) := ⟨⟨_, hus.out⟩⟩
        have hbd := hus.out.lift (below_drew wr)
        have k0 : (0 : Int) ≤ k := by omega
        have k1 : (k : Int) < o.refs.length := by omega
        have HL := hide hlt
        have HM := hide (show o.refs.length - (k + 1) < o.refs.length - k from by omega)
        have s0 : IntKind.i64.wrap ((k : Int) - 1) = (k : Int) - 1 := IntWalk.i64_in _ (by omega)
        have s1 : ((k : Int) - 1).toNat = k - 1 := by omega
        have s3 : (k : Int) - 1 < o.refs.length := by omega
        have HNX := hide (lastR_next hx)
        obtain ⟨nb, hnb⟩ := bool_of (b := name s.data.toList)
        obtain ⟨k2, hk2⟩ := bool_of (b := (o.kind == 2))
        obtain ⟨k3, hk3⟩ := bool_of (b := (o.kind == 3))
        obtain ⟨kp, hkp⟩ := bool_of (b := decide (0 < k))
        obtain ⟨pe, hpe⟩ := bool_of (b := ((lastR o.refs k).toList == s.toList))
        obtain ⟨sn, hsn⟩ := bool_of (b := hasS s S)
        rw [hnb, hk2, hk3, hkp, hpe, hsn] at hr2
        rw [hnb] at HN
        rw [hsn] at LK
        have HR2 := hide hr2
        have HSL := hide hsl.out
        have HSZ2 := hide hsz
        have hcs : (nb = false ∨ (nb = true ∧ k2 = true ∧ kp = true ∧ pe = true) ∨ (nb = true ∧ k2 = false ∧ k3 = true ∧ sn = true)) ∨ ((nb = true ∧ k2 = true ∧ kp = false ∧ k3 = false) ∨ (nb = true ∧ k2 = true ∧ kp = true ∧ pe = false ∧ k3 = false) ∨ (nb = true ∧ k2 = false ∧ k3 = true ∧ sn = false) ∨ (nb = true ∧ k2 = false ∧ k3 = false)) := by
          have hx23 : k2 = true → k3 = false := by
            intro h
            rw [← hk3]
            rw [h, beq_iff_eq] at hk2
            rw [hk2]; rfl
          cases nb <;> cases k2 <;> cases k3 <;> cases kp <;> cases pe <;> cases sn <;> simp_all
        have s2 : kp = true → (0 : Int) ≤ (k : Int) - 1 := by
          intro h; rw [h, decide_eq_true_eq] at hkp; omega
        have P1 : kp = true → ∀ u : Uss wo bm S, u.w.cell? ⟨g, off + (k - 1), none⟩ = some (.string (lastR o.refs k)) := fun h => by
          rw [h, decide_eq_true_eq] at hkp; exact P0 hkp
        generalize lastR o.refs k = pr at *
        have pe2 : pe = false → ¬ pr.toList = s.toList := fun h => by rw [h] at hpe; exact fun e => by rw [e] at hpe; simp at hpe
        have pe3 : pe = true → pr.toList = s.toList := fun h => by rw [h] at hpe; simpa using hpe
        clear P0 hr hr2 hsl hus hp hlt hx hsz hnb hsn
        rcases hcs with hcs | hcs
        · have HZ : Hid (R = false) := by
            rw [← HR2.out]
            rcases hcs with rfl | ⟨rfl, rfl, rfl, rfl⟩ | ⟨rfl, rfl, rfl, rfl⟩ <;> exact hide (by simp)
          rcases hcs with rfl | ⟨rfl, rfl, rfl, rfl⟩ | ⟨rfl, rfl, rfl, rfl⟩
          all_goals as_aux_lemma =>
            try replace s2 := s2 rfl
            try replace P1 := P1 rfl
            try replace pe3 := pe3 rfl
            go_wp2_with fail
            refine wp_region_quietW (J := Uss wo bm S) Uss.w ⟨_, hbd⟩ rfl (by kernel_rfl) (by kernel_rfl) ?_
            repeat (go_big_quiet_step (((with_reducible refine (HN.out _).mono ?_); rintro _ w8 ⟨rfl, rfl⟩; exact ⟨rfl, Uss.go _ (Below.refl _ _)⟩)))
            refine wpQuiet_nil ?_
            rintro w9 ⟨u, rfl⟩
            have HB2 := hide (bto HBO.out u.2.below)
            go_wp2_with fail
            go_ret
            exact ⟨ret_bool HZ.out.symm, HB2.out⟩
        · have HZ : Hid ((refsB o.kind (s :: S) (lastR o.refs (k + 1)) (o.refs.drop (k + 1)) && lenB o.kind o.refs.length) = R) := by
            rw [HNX.out, ← HR2.out]
            rcases hcs with ⟨rfl, rfl, rfl, rfl⟩ | ⟨rfl, rfl, rfl, rfl, rfl⟩ | ⟨rfl, rfl, rfl, rfl⟩ | ⟨rfl, rfl, rfl⟩ <;> exact hide (by simp)
          rcases hcs with ⟨rfl, rfl, rfl, rfl⟩ | ⟨rfl, rfl, rfl, rfl, rfl⟩ | ⟨rfl, rfl, rfl, rfl⟩ | ⟨rfl, rfl, rfl⟩
          all_goals as_aux_lemma =>
            try replace s2 := s2 rfl
            try replace P1 := P1 rfl
            try replace pe2 := pe2 rfl
            go_wp2_with fail
            refine wp_region_quietW (J := Uss wo bm S) Uss.w ⟨_, hbd⟩ rfl (by kernel_rfl) (by kernel_rfl) ?_
            repeat (go_big_quiet_step (((with_reducible refine (HN.out _).mono ?_); rintro _ w8 ⟨rfl, rfl⟩; exact ⟨rfl, Uss.go _ (Below.refl _ _)⟩)))
            refine wpQuiet_nil ?_
            rintro w9 ⟨u, rfl⟩
            obtain ⟨W1, hst, hus1⟩ := UsI.put u.2 s HSZ2.out (by have := HSL.out; omega)
            have hst' : (Instr.mapUpdate 51 (.map (some bm)) (.string s) (.bool true)).run Try.prog u.w = .ok () W1 := hst
            have HU1 := hide hus1
            clear hst hus1
            go_wp2_with fail
            refine ⟨⟨k + 1, s :: S, HL.out, by go_num, hide (by have := HSL.out; simp [this]), HU1, HZ⟩, ?_⟩
            have := HM.out
            simp [intOf]; omega
      · obtain rfl : k = o.refs.length := by omega
        have hz := hr.out
        rw [List.drop_length, refsB, Bool.true_and] at hz
        have HB2 := hide (bto HBO.out hus.out.below)
        have d1 := (box6 (blkB hus.out.below HBL.out)).2.1
        have HZ := hide hz
        clear hz hr hus hlt hsl
        generalize o.refs.length = n at *
        have hks : o.kind = 1 ∨ o.kind = 2 ∨ o.kind = 3 ∨ o.kind = 4 ∨ (o.kind ≠ 1 ∧ o.kind ≠ 2 ∧ o.kind ≠ 3 ∧ o.kind ≠ 4) := by omega
        rcases hks with h | h | h | h | ⟨h1, h2, h3, h4⟩
        · have HY : Hid (decide (n = 0) = R) := by have := HZ.out; rw [h] at this; exact hide this
          rw [h] at d1
          go_wp2_with fail
          go_ret
          exact ⟨ret_bool (by rw [← HY.out, Bool.eq_iff_iff]; simp), HB2.out⟩
        · have HY : Hid (decide (2 ≤ n) = R) := by have := HZ.out; rw [h] at this; exact hide this
          rw [h] at d1
          go_wp2_with fail
          go_ret
          exact ⟨ret_bool (by rw [← HY.out, Bool.eq_iff_iff]; simp; try omega), HB2.out⟩
        · have HY : Hid (decide (3 ≤ n) = R) := by have := HZ.out; rw [h] at this; exact hide this
          rw [h] at d1
          go_wp2_with fail
          go_ret
          exact ⟨ret_bool (by rw [← HY.out, Bool.eq_iff_iff]; simp; try omega), HB2.out⟩
        · have HY : Hid (decide (1 ≤ n) = R) := by have := HZ.out; rw [h] at this; exact hide this
          rw [h] at d1
          go_wp2_with fail
          go_ret
          exact ⟨ret_bool (by rw [← HY.out, Bool.eq_iff_iff]; simp; try omega), HB2.out⟩
        · have HY : Hid (decide (n = 3) = R) := by
            have := HZ.out
            unfold lenB at this
            rw [if_neg h1, if_neg h2, if_neg h3, if_neg h4] at this
            exact hide this
          have q1 : (o.kind == 1) = false := beq_eq_false_iff_ne.2 h1
          have q2 : (o.kind == 2) = false := beq_eq_false_iff_ne.2 h2
          have q3 : (o.kind == 3) = false := beq_eq_false_iff_ne.2 h3
          have q4 : (o.kind == 4) = false := beq_eq_false_iff_ne.2 h4
          go_wp2_with fail
          go_ret
          exact ⟨ret_bool (by rw [← HY.out, Bool.eq_iff_iff]; simp; try omega), HB2.out⟩
end Go.Proofs.Ytpiocaomlifljaa
