/-
  The class of each byte, and the lexer's Name, walked over the classes.
-/
import Derived.Test.YtfkgjbdeicggaaaGreatLexH
import Derived.Test.YtfkgjbdeicggaaaGreatLexAE
namespace Go.Proofs.YtfkgjbdeicggaaaGreat
open Go.RowKit Go.Proofs.PlLex

theorem clsArr_at (c : UInt8) : clsArr[c.toNat]? = some (clsV c.toNat) := by
  have := c.toNat_lt
  simp [clsArr, this]
/-- The class of a byte. -/
def clsB (c : UInt8) : Int := (cls c.toNat : Int)
theorem all_bytes (p : UInt8 → Bool) (h : ∀ n : Fin 256, p (UInt8.ofNat n) = true) (c : UInt8) : p c = true := by
  have := h ⟨c.toNat, c.toNat_lt⟩
  simpa using this
theorem cls_bounds (c : UInt8) : 0 ≤ clsB c ∧ clsB c ≤ 7 := by
  have := all_bytes (fun c => decide (0 ≤ clsB c ∧ clsB c ≤ 7)) (by decide +kernel) c
  simpa using this
theorem cls_letter (c : UInt8) : (clsB c == 3) = isLetter c := by
  have := all_bytes (fun c => (clsB c == 3) == isLetter c) (by decide +kernel) c
  simpa using this
theorem cls_digit (c : UInt8) : (clsB c == 4) = isDigit c := by
  have := all_bytes (fun c => (clsB c == 4) == isDigit c) (by decide +kernel) c
  simpa using this
theorem cls_blank (c : UInt8) : (clsB c == 1) = isBlank c := by
  have := all_bytes (fun c => (clsB c == 1) == isBlank c) (by decide +kernel) c
  simpa using this
theorem cls_hash (c : UInt8) : (clsB c == 2) = (c == 35) := by
  have := all_bytes (fun c => (clsB c == 2) == (c == 35)) (by decide +kernel) c
  simpa using this
theorem cls_quote (c : UInt8) : (clsB c == 7) = (c == 34) := by
  have := all_bytes (fun c => (clsB c == 7) == (c == 34)) (by decide +kernel) c
  simpa using this
theorem cls_sym (c : UInt8) : (clsB c == 6) = isSym c := by
  have := all_bytes (fun c => (clsB c == 6) == isSym c) (by decide +kernel) c
  simpa using this
theorem cls_word (c : UInt8) : (clsB c == 3 || clsB c == 4 || clsB c == 5) = isWord c := by
  have := all_bytes (fun c => (clsB c == 3 || clsB c == 4 || clsB c == 5) == isWord c) (by decide +kernel) c
  simpa using this

set_option maxRecDepth 100000 in
set_option maxHeartbeats 1000000 in
theorem pname_any (s : ByteArray) (w : World) (hs : s.size ≤ maxLen) :
    Calls Tryz.prog 79 #[.string s] w fun e w' => e = .returned (.bool (name s.data.toList)) ∧ Below w.heap.size w w' := by
  unfold maxLen at hs
  obtain ⟨R, hR⟩ : ∃ R, R = name s.data.toList := ⟨_, rfl⟩
  rw [← hR]
  have HR := hide hR
  clear hR
  go_enter Tryz.func79, Tryz.ntmps79
  go_wp2_with fail
  refine (classes_any _).mono ?_
  rintro e w1 ⟨rfl, hb⟩
  go_wp2_with (refine wpList_store_row rfl 220 (.tmp 3) (.tmp 6) rfl w1.heap.size clsArr rfl rfl 220 zeros (heap_alloc_new w1 _) (by rw [clsArr_size]; exact info_classes) (by rw [clsArr_size]; simp [zeros]) clsArr_one ?_; rw [World.setRow_alloc_new])
  have hcl := fun c : UInt8 => cell_of_row (w1.alloc (.cells clsArr 220)) w1.heap.size c.toNat clsArr _ _ (heap_alloc_new w1 _)
  have HCL := hide hcl
  have HB := hide (hb.alloc hb.size (.cells clsArr 220))
  clear hb hcl
  go_loop [9] (fun i => ∃ k : Nat, k ≤ s.size ∧ i = .int .i64 k ∧ Hid ((k = 0 ∨ headLetter s.data.toList = true) ∧ allWord (s.data.toList.drop k) = allWord s.data.toList)) (fun i => s.size - (intOf i).toNat)
  case atStart => exact ⟨0, Nat.zero_le _, rfl, .inl rfl, rfl⟩
  case round =>
    obtain ⟨k, hk, rfl, hrel⟩ := hrel
    by_cases hlt : k < s.size
    · have hd := hide (drop_cons s k hlt)
      have hc : (w1.alloc (.cells clsArr 220)).cell? ⟨w1.heap.size, s[k].toNat, none⟩ = some (.int .u8 (clsB s[k])) := by
        rw [HCL.out, clsArr_at]; rfl
      have hb : s[k].toNat < 256 := s[k].toNat_lt
      have hb2 : (s[k].toNat : Int) < 256 := by omega
      have e3 := cls_letter s[k]
      have ew := cls_word s[k]
      cases hl : isLetter s[k]
      · have t3 : (clsB s[k] != 3) = true := by rw [bne, e3, hl]; rfl
        rcases Nat.eq_zero_or_pos k with h0 | h0
        · subst h0
          have HF : Hid (R = false) := by
            show _ = _
            have e := hd.out
            rw [List.drop_zero] at e
            rw [HR.out, name_eq, show headLetter s.data.toList = false from by rw [e]; exact hl]
            simp
          clear e3 ew hl
          go_wp2
          go_ret
          exact ⟨ret_bool HF.out.symm, HB.out⟩
        · have t0 : ((k : Int) == 0) = false := by rw [beq_eq_false_iff_ne]; omega
          cases hw : isWord s[k]
          · rw [e3, hl, hw, Bool.false_or, Bool.or_eq_false_iff] at ew
            have t4 : (clsB s[k] != 4) = true := by rw [bne, ew.1]; rfl
            have t5 : (clsB s[k] != 5) = true := by rw [bne, ew.2]; rfl
            have HF : Hid (R = false) := by
              show _ = _
              rw [HR.out, name_eq, ← hrel.out.2, hd.out]
              simp [allWord, hw]
            clear e3 ew hl hw
            go_wp2
            go_ret
            exact ⟨ret_bool HF.out.symm, HB.out⟩
          · rw [e3, hl, hw, Bool.false_or] at ew
            have hn : Hid ((k + 1 = 0 ∨ headLetter s.data.toList = true) ∧ allWord (s.data.toList.drop (k + 1)) = allWord s.data.toList) := by
              refine ⟨.inr (hrel.out.1.resolve_left (by omega)), ?_⟩
              rw [← hrel.out.2, hd.out]
              simp [allWord, hw]
            cases h4 : (clsB s[k] == 4)
            · have t4 : (clsB s[k] != 4) = true := by rw [bne, h4]; rfl
              rw [h4, Bool.false_or] at ew
              have t5 : (clsB s[k] != 5) = false := by rw [bne, ew]; rfl
              clear e3 ew hl hw h4 hrel
              go_wp2
              go_round
              case rel => exact ⟨k + 1, by omega, by go_num, hn⟩
              case measure => simp [intOf]; omega
            · have t4 : (clsB s[k] != 4) = false := by rw [bne, h4]; rfl
              clear e3 ew hl hw h4 hrel
              go_wp2
              go_round
              case rel => exact ⟨k + 1, by omega, by go_num, hn⟩
              case measure => simp [intOf]; omega
      · have t3 : (clsB s[k] != 3) = false := by rw [bne, e3, hl]; rfl
        have hn : Hid ((k + 1 = 0 ∨ headLetter s.data.toList = true) ∧ allWord (s.data.toList.drop (k + 1)) = allWord s.data.toList) := by
          refine ⟨.inr ?_, ?_⟩
          · rcases hrel.out.1 with h0 | h0
            · subst h0
              have e := hd.out
              rw [List.drop_zero] at e
              rw [e]; exact hl
            · exact h0
          · rw [← hrel.out.2, hd.out]
            simp [allWord, letter_word _ hl]
        clear e3 ew hl hrel
        go_wp2
        go_round
        case rel => exact ⟨k + 1, by omega, by go_num, hn⟩
        case measure => simp [intOf]; omega
    · obtain rfl : s.size = k := by omega
      have hall : allWord s.data.toList = true := by
        rw [← hrel.out.2, drop_end s _ hlt]; rfl
      by_cases h0 : s.size = 0
      · have hnil : s.data.toList = [] := by have := drop_end s 0 (by omega); simpa using this
        have hemp : s.toList = [] := by rw [ByteArray.toList_eq, hnil]
        have HF : Hid (R = false) := by show _ = _; rw [HR.out, hnil]; rfl
        have hemp2 : s.toList.isEmpty = true := by rw [hemp]; rfl
        clear hnil hall
        go_wp2
        go_ret
        exact ⟨ret_bool HF.out.symm, HB.out⟩
      · have hh : headLetter s.data.toList = true := hrel.out.1.resolve_left h0
        have HF : Hid (R = decide (s.size ≤ 24)) := by show _ = _; rw [HR.out, name_eq, hall, hh, size_list]; rfl
        have hne : s.toList ≠ [] := by
          rw [ByteArray.toList_eq]
          intro e
          have := congrArg List.length e
          rw [size_list] at this
          exact h0 (by simpa using this)
        have hemp2 : s.toList.isEmpty = false := by simpa using hne
        clear hall hh
        go_wp2
        go_ret
        exact ⟨ret_bool (by rw [HF.out, Bool.eq_iff_iff]; simp only [decide_eq_true_eq]; omega), HB.out⟩
