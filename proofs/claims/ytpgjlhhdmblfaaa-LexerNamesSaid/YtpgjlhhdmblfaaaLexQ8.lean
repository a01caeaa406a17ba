/-
  LexerNames, walked: it returns true.
-/
import Derived.Test.YtpgjlhhdmblfaaaLexQ7
namespace Go.Proofs.Ytpgjlhhdmblfaaa
open Go.RowKit Go.Proofs.PlLex

def symTab : ByteArray := ⟨#[61, 59, 60, 62, 40, 41, 123, 125, 91, 93, 44, 46, 58, 47, 45]⟩
def symAt (k : Nat) : UInt8 := symTab.data.toList.getD k 45
theorem symAt_sym (k : Nat) (h : k < 15) : isSym (symAt k) = true := by
  have : ∀ i : Fin 15, isSym (symAt i) = true := by decide
  exact this ⟨k, h⟩
theorem symTab_at (k : Nat) (h : k < 15) : symTab.extract k (k + 1) = ⟨#[symAt k]⟩ := by
  have : ∀ i : Fin 15, (symTab.extract i (i + 1)).data.toList = [symAt i] := by decide
  exact str_of_list _ _ (this ⟨k, h⟩)

/-- Is the text one token, a name with this text? -/
def isOne (s : ByteArray) : Bool := match (scan 0 0 s.data.toList) with
  | ([t], none) => tokEq t.kind t.off ⟨t.text.toArray⟩ 1 0 s
  | _ => false
theorem isOne_name (s : ByteArray) : isOne s = name s.data.toList := by
  rw [Bool.eq_iff_iff, name_iff]
  unfold isOne
  constructor
  · intro h
    split at h
    · rename_i t hs
      rw [hs]
      simp only [tokEq, Bool.and_eq_true, beq_iff_eq] at h
      obtain ⟨h1, h2, h3⟩ := h
      rw [toList_arr, ByteArray.toList_eq] at h2
      cases t
      simp only at h1 h2 h3
      obtain rfl := h2
      have h4 : ‹Nat› = ‹Nat› := rfl
      simp only [Prod.mk.injEq, List.cons.injEq, and_true, Tok.mk.injEq, true_and]
      omega
    · cases h
  · intro h
    rw [h]
    show tokEq 1 0 ⟨s.data.toList.toArray⟩ 1 0 s = true
    rw [bytes_eta]
    exact tokEq_self 1 0 s

theorem dec_one (f n : Nat) (h : n < 10) : (decimal f n).length ≤ 1 := by
  cases f with
  | zero => exact Nat.zero_le _
  | succ f => rw [decimal_one f n h]; exact Nat.le_refl _
theorem dec_len (k : Nat) : ∀ f n, n < 10 ^ (k + 1) → (decimal f n).length ≤ k + 1 := by
  induction k with
  | zero => intro f n h; exact dec_one f n (by simpa using h)
  | succ k ih =>
    intro f n h
    cases f with
    | zero => exact Nat.zero_le _
    | succ f =>
      by_cases hn : n < 10
      · have := dec_one (f + 1) n hn; omega
      · have hp : n / 10 < 10 ^ (k + 1) := by
          rw [Nat.pow_succ] at h
          exact Nat.div_lt_of_lt_mul (by rw [Nat.mul_comm]; exact h)
        have h1 := ih f (n / 10) hp
        rw [decimal, if_neg hn, List.length_append, List.length_cons, List.length_nil]
        omega
theorem dec7 (x : Nat) (h : x < 10000000) : (decimal 8 x).length ≤ 7 := dec_len 6 8 x (Nat.lt_of_lt_of_le h (by simp))

set_option maxRecDepth 100000 in
set_option maxHeartbeats 4000000 in
theorem law8_walk (s : ByteArray) (m z : Int) (_ : s.size ≤ maxLen) (wm : (Lit.int .u64 m).wf = true) (wz : (Lit.int .u8 z).wf = true) (w : World) : Calls Try.prog 10 #[.string s, .int .u64 m, .int .u8 z] w fun e w' => e = .returned (.bool true) ∧ Below w.heap.size w w' := by
  have hm : 0 ≤ m ∧ m < 18446744073709551616 := by
    have : IntKind.min .u64 ≤ m ∧ m ≤ IntKind.max .u64 := by simpa [Lit.wf] using wm
    simp [IntKind.min, IntKind.max, IntKind.signed, IntKind.bits] at this; omega
  have hz : 0 ≤ z ∧ z < 256 := by
    have : IntKind.min .u8 ≤ z ∧ z ≤ IntKind.max .u8 := by simpa [Lit.wf] using wz
    simp [IntKind.min, IntKind.max, IntKind.signed, IntKind.bits] at this; omega
  clear wm wz
  by_cases h1 : s.size ≤ 3000
  · have HP := hide (fun w => pname_any s w (by unfold maxLen; omega))
    have hone := isOne_name s
    obtain ⟨nm, hnm⟩ : ∃ nm, name s.data.toList = nm := ⟨_, rfl⟩
    rw [hnm] at HP hone
    unfold isOne at hone
    cases hx : (scan 0 0 s.data.toList).2 with
    | some x =>
      obtain ⟨er, n⟩ := x
      have hl := lex_bad _ (by rw [size_list]; omega) _ _ hx
      have he := (scan_error 0 _ _ _ hx).1
      have HL := hide (lexS s _ _ _ hl (by omega))
      have e0 : ((er : Int) == 0) = false := by rw [beq_eq_false_iff_ne]; omega
      obtain rfl : false = nm := by
        rw [← hone]
        split
        · rename_i hs; rw [hs] at hx; cases hx
        · rfl
      clear hx hl he hone hnm hm hz
      go_enter Try.func10, Try.ntmps10
      go_wp2_with fail
      refine (head_any _).mono ?_
      rintro _ w1 ⟨rfl, b1⟩
      go_wp2_with fail
      refine (HL.out _).mono ?_
      rintro _ w2 ⟨A2, c2, rfl, t2, b2⟩
      clear t2
      go_wp2_with fail
      refine (HP.out _).mono ?_
      rintro _ w3 ⟨rfl, b3⟩
      go_wp2_with fail
      go_ret
      exact ⟨rfl, bto (bto b1 b2) b3⟩
    | none =>
      have hl := lex_ok _ (by rw [size_list]; omega) hx
      obtain ⟨ts, hts⟩ : ∃ ts, (scan 0 0 s.data.toList).1 = ts := ⟨_, rfl⟩
      have hsc : scan 0 0 s.data.toList = (ts, none) := by rw [← hts, ← hx]
      rw [hts] at hl
      rw [hsc] at hone
      by_cases hn : ts.length = 1
      · obtain ⟨t, rfl⟩ := List.length_eq_one_iff.1 hn
        simp only at hone
        have HL := hide (lexT s _ _ hl (by omega))
        obtain ⟨tk, tx, tof⟩ := t
        simp only at hone
        cases nm with
        | false =>
          clear hx hl hnm hm hz hsc hts hn
          go_enter Try.func10, Try.ntmps10
          go_wp2_with fail
          refine (head_any _).mono ?_
          rintro _ w1 ⟨rfl, b1⟩
          go_wp2_with fail
          refine (HL.out _).mono ?_
          rintro _ w2 ⟨g, o, c, rfl, hg, ht, b2⟩
          obtain ⟨p1, p2, p3, _⟩ := ht 0 _ rfl
          simp only [Nat.zero_mul, Nat.add_zero] at p1 p2 p3
          clear ht
          go_wp2_with fail
          refine (HP.out _).mono ?_
          rintro _ w3 ⟨rfl, b3⟩
          go_wp2_with fail
          go_ret
          exact ⟨rfl, bto (bto b1 b2) b3⟩
        | true =>
          obtain ⟨m, rfl⟩ : ∃ m' : Nat, m = m' := ⟨m.toNat, by omega⟩
          obtain ⟨z, rfl⟩ : ∃ z' : Nat, z = z' := ⟨z.toNat, by omega⟩
          obtain ⟨x, hxx⟩ : ∃ x : Nat, x = m % 10000000 := ⟨_, rfl⟩
          obtain ⟨kk, hkk⟩ : ∃ kk : Nat, kk = z % 15 := ⟨_, rfl⟩
          have ex : ((m : Int) % 10000000) = (x : Int) := by omega
          have ek : ((z : Int) % 15) = (kk : Int) := by omega
          have hkl : kk < 15 := by omega
          have hxl : x < 10000000 := by omega
          have hsl := symTab_at kk hkl
          unfold symTab at hsl
          have hsy := symAt_sym kk hkl
          have HD := hide (fun w => decimal_any 7 (x : Int) w (by omega) (by omega) (by omega) (by omega))
          have k0 : (0 : Int) ≤ kk := by omega
          have k1 : (kk : Int) ≤ kk + 1 := by omega
          have k2 : (kk : Int) + 1 ≤ 15 := by omega
          have k3 : (kk : Int) < 15 := by omega
          have hj := name_sym_num s.data.toList (symAt kk) (decimal 8 x) hnm hsy (decimal_ne 7 x) (decimal_digits 8 x) (dec7 x hxl)
          obtain ⟨dt, hdt⟩ : ∃ dt, decText 8 (x : Int) = dt := ⟨_, rfl⟩
          rw [hdt] at HD
          have hdl : dt.data.toList = decimal 8 x := by rw [← hdt]; simp [decText]
          rw [← hdl] at hj
          have hds : dt.size ≤ 8 := by
            have := decText_size 8 (x : Int)
            rwa [hdt] at this
          have hjs : (s ++ ByteArray.mk #[symAt kk] ++ dt).size ≤ 3010 := by
            have := decText_size 8 (x : Int)
            rw [hdt] at this
            rw [ByteArray.size_append, ByteArray.size_append]
            show s.size + 1 + dt.size ≤ 3010
            omega
          have hjl : lex (s ++ ByteArray.mk #[symAt kk] ++ dt).data.toList = ([⟨1, s.data.toList, 0⟩, ⟨4, [symAt kk], s.size⟩, ⟨2, dt.data.toList, s.size + 1⟩], 0, 0) := by
            have e : (s ++ ByteArray.mk #[symAt kk] ++ dt).data.toList = s.data.toList ++ [symAt kk] ++ dt.data.toList := by rw [app_list, app_list]
            have hle : (s.data.toList ++ [symAt kk] ++ dt.data.toList).length ≤ 5000 := by rw [← e, size_list]; omega
            rw [e, lex_ok _ hle (by rw [hj]), hj]; rfl
          generalize symAt kk = c1 at *
          have HJ := hide (lexT _ _ _ hjl (by omega))
          have q1 := tokEq_self 1 0 s
          have q2 := tokEq_self 4 s.size ⟨#[c1]⟩
          have q3 := tokEq_self 2 (s.size + 1) dt
          obtain ⟨hz0, hz1⟩ := hz
          clear hx hl hnm hm hsc hts hn hxx hkk hkl hxl hsy hj hdt hdl hjl
          go_enter Try.func10, Try.ntmps10
          go_wp2_with fail
          refine (head_any _).mono ?_
          rintro _ w1 ⟨rfl, b1⟩
          go_wp2_with fail
          refine (HL.out _).mono ?_
          rintro _ w2 ⟨g, o, c, rfl, hg, ht, b2⟩
          obtain ⟨p1, p2, p3, _⟩ := ht 0 _ rfl
          simp only [Nat.zero_mul, Nat.add_zero] at p1 p2 p3
          clear ht
          go_wp2_with fail
          refine (HP.out _).mono ?_
          rintro _ w3 ⟨rfl, b3⟩
          go_wp2_with fail
          refine (HD.out _).mono ?_
          rintro _ _ ⟨rfl, rfl⟩
          go_wp2_with fail
          refine (HJ.out _).mono ?_
          rintro _ w4 ⟨g2, o2, c2, rfl, hg2, ht, b4⟩
          obtain ⟨r1, r2, r3, _⟩ := ht 0 _ rfl
          obtain ⟨s1, s2, s3, _⟩ := ht 1 _ rfl
          obtain ⟨t1, t2, t3, _⟩ := ht 2 _ rfl
          simp only [Nat.zero_mul, Nat.one_mul, Nat.add_zero, Nat.reduceMul] at r1 r2 r3 s1 s2 s3 t1 t2 t3
          rw [bytes_eta] at r2 t2
          clear ht
          go_wp2_with fail
          go_ret
          exact ⟨rfl, bto (bto (bto b1 b2) b3) b4⟩
      · have HL := hide (lexS s _ _ _ hl (by omega))
        obtain ⟨N, hN⟩ : ∃ N, ts.length = N := ⟨_, rfl⟩
        have e0 : ((N : Int) == 1) = false := by rw [beq_eq_false_iff_ne]; omega
        have e1 : (N == 1) = false := by rw [beq_eq_false_iff_ne]; omega
        obtain rfl : false = nm := by
          rw [← hone]
          split
          · rename_i hs; cases hs; exact absurd rfl hn
          · rfl
        rw [hN] at HL
        clear hx hl hone hnm hm hz hsc hts hn hN
        go_enter Try.func10, Try.ntmps10
        go_wp2_with fail
        refine (head_any _).mono ?_
        rintro _ w1 ⟨rfl, b1⟩
        go_wp2_with fail
        refine (HL.out _).mono ?_
        rintro _ w2 ⟨A2, c2, rfl, t2, b2⟩
        clear t2
        go_wp2_with fail
        refine (HP.out _).mono ?_
        rintro _ w3 ⟨rfl, b3⟩
        go_wp2_with fail
        go_ret
        exact ⟨rfl, bto (bto b1 b2) b3⟩
  · go_enter Try.func10, Try.ntmps10
    go_wp2_with fail
    refine (head_any _).mono ?_
    rintro _ w1 ⟨rfl, b1⟩
    go_wp2_with fail
    go_ret
    exact ⟨rfl, b1⟩
