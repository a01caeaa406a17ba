/-
  The lexer's Quote and unquoted, walked: what their builder holds.
-/
import Derived.Test.YtoodmhlefaepaaaGreatBuild
import Derived.Test.YtoodmhlefaepaaaGreatShelf
import Derived.Test.YtoodmhlefaepaaaGreatLexC
namespace Go.Proofs.YtoodmhlefaepaaaGreat
open Go.RowKit Go.Proofs.PlLex

theorem byteCells_app (a b : L) : Lib.byteCells (a ++ b) = Lib.byteCells a ++ Lib.byteCells b := by simp [Lib.byteCells]
theorem byteCells_one (c : UInt8) : Lib.byteCells [c] = [.int .u8 (c.toNat : Int)] := rfl
theorem byteCells_len (a : L) : (Lib.byteCells a).length = a.length := by simp [Lib.byteCells]
theorem strCells_eq (s : ByteArray) : Lib.strCells s = Lib.byteCells s.data.toList := by
  simp [Lib.strCells, Lib.byteCells]
theorem quoteB_len2 (l : L) : (quoteB l).length ≤ 2 * l.length := by
  induction l with
  | nil => simp [quoteB]
  | cons c l ih => simp only [quoteB]; split <;> (try split) <;> simp <;> omega

/-- The builder holds these bytes. -/
def Bld (B : Nat) (l : L) (w : World) : Prop := IsB B B (Lib.byteCells l) w
theorem Bld.start (w : World) : Bld w.heap.size [] (w.alloc (.cells #[.pointer none, .slice none 0 0] 56)) := Lib.fresh_isBuilder _ _ w
theorem wb (B : Nat) (l : L) (c : UInt8) (w : World) (h : Bld B l w) (hl : l.length ≤ 10000000) (hB : B ≤ w.heap.size) :
    Calls Tryz.prog 66 #[.pointer (some ⟨B, 0, none⟩), .int .u8 (c.toNat : Int)] w fun e w' => e = .returned .nilIface ∧ Bld B (l ++ [c]) w' ∧ Below B w w' := by
  refine (writeByte_any B B (Lib.byteCells l) c.toNat w h (by rw [byteCells_len]; omega) hB).mono ?_
  rintro e w' ⟨rfl, h1, h2⟩
  exact ⟨rfl, .inr (by rw [byteCells_app, byteCells_one]; exact h1), h2⟩
theorem ws (B : Nat) (l : L) (s : ByteArray) (w : World) (h : Bld B l w) (hl : l.length + s.size ≤ 10000000) (hB : B ≤ w.heap.size) :
    Calls Tryz.prog 34 #[.pointer (some ⟨B, 0, none⟩), .string s] w fun e w' => e = .returned (.tuple #[.int .i64 s.size, .nilIface]) ∧ Bld B (l ++ s.data.toList) w' ∧ Below B w w' := by
  refine (writeString_any B B (Lib.byteCells l) s w h (by rw [byteCells_len]; omega) hB).mono ?_
  rintro e w' ⟨rfl, h1, h2⟩
  exact ⟨rfl, .inr (by rw [byteCells_app, ← strCells_eq]; exact h1), h2⟩
theorem wstr (B : Nat) (l : L) (w : World) (h : Bld B l w) (hB : B ≤ w.heap.size) :
    Calls Tryz.prog 18 #[.pointer (some ⟨B, 0, none⟩)] w fun e w' => e = .returned (.string ⟨l.toArray⟩) ∧ Below B w w' := Tryz.Builder_String_any B B l w h hB

set_option maxHeartbeats 2000000 in
theorem pquote_any (s : ByteArray) (w : World) (hs : s.size ≤ 1000000) :
    Calls Tryz.prog 36 #[.string s] w fun e w' => e = .returned (.string ⟨(quote s.data.toList).toArray⟩) ∧ Below w.heap.size w w' := by
  obtain ⟨B, hB⟩ : ∃ B, B = w.heap.size := ⟨_, rfl⟩
  have hst := Bld.start w
  rw [← hB] at hst ⊢
  have HST := hide hst
  have HBE := hide hB
  have hB1 : B ≤ w.heap.size := by omega
  have hb0 : Below B w (w.alloc (.cells #[.pointer none, .slice none 0 0] 56)) := (Below.refl _ _).alloc hB1 _
  have HB0 := hide hb0
  have hsz0 : B ≤ (w.alloc (.cells #[.pointer none, .slice none 0 0] 56)).heap.size := by simp; omega
  clear hst hB hb0
  go_enter Tryz.func36, Tryz.ntmps36
  go_wp2_with fail
  rw [← HBE.out]
  refine (wb B [] 34 _ HST.out (by simp) (by simpa using hsz0)).mono ?_
  rintro e w1 ⟨rfl, h1, hb1⟩
  have H1 := hide h1
  have HB1 := hide (HB0.out.trans hb1)
  have hs1 : B ≤ w1.heap.size := Nat.le_trans hsz0 hb1.size
  clear h1 hb1 hsz0 HST HB0
  go_wp2_with fail
  go_loopw [9] (fun i wr => ∃ k : Nat, k ≤ s.size ∧ i = .int .i64 k ∧ B ≤ wr.heap.size ∧ Hid (Bld B (34 :: quoteB (s.data.toList.take k)) wr) ∧ Hid (Below B w wr)) (fun i _ => s.size - (intOf i).toNat)
  case atStart => exact ⟨0, Nat.zero_le _, rfl, hs1, H1, HB1⟩
  case round =>
    clear H1 HB1 hs1
    obtain ⟨k, hk, rfl, hs1, hbl, hb⟩ := hrel
    by_cases hlt : k < s.size
    · have htk := hide (take_snoc s k hlt)
      have hl : (34 :: quoteB (s.data.toList.take k)).length ≤ 2000001 := by
        have := quoteB_len2 (s.data.toList.take k)
        rw [List.length_take, size_list] at this
        simp; omega
      have HL := hide hl
      clear hl
      have q1 := hide (u8_eq s[k] 10)
      have q2 := hide (u8_eq s[k] 34)
      have q3 := hide (u8_eq s[k] 92)
      cases h1 : (s[k] == 10)
      · have t1 : ((s[k].toNat : Int) == 10) = false := q1.out.trans h1
        have HH1 := hide h1
        clear h1
        cases h2 : (s[k] == 34 || s[k] == 92)
        · have t2 : ((s[k].toNat : Int) == 34) = false := by rw [Bool.or_eq_false_iff] at h2; exact q2.out.trans h2.1
          have t3 : ((s[k].toNat : Int) == 92) = false := by rw [Bool.or_eq_false_iff] at h2; exact q3.out.trans h2.2
          have HH2 := hide h2
          clear h2
          go_wp2_with fail
          refine (wb B _ s[k] _ hbl.out (by have := HL.out; omega) hs1).mono ?_
          rintro e w2 ⟨rfl, g1, g2⟩
          have G := hide (show Bld B (34 :: quoteB (s.data.toList.take (k + 1))) w2 from by
            rw [htk.out, quoteB_snoc, HH1.out, HH2.out]; exact g1)
          have G2 := hide (hb.out.trans g2)
          have hs2 : B ≤ w2.heap.size := Nat.le_trans hs1 g2.size
          clear g1 g2
          go_wp2_with fail
          go_roundw
          case rel => exact ⟨k + 1, by omega, by go_num, hs2, G, G2⟩
          case measure => simp [intOf]; omega
        · have HH2 := hide h2
          have hor : s[k] = 34 ∨ s[k] = 92 := by simpa using h2
          clear h2
          by_cases h34 : s[k] = 34
          all_goals
            first
              | have t2 : ((s[k].toNat : Int) == 34) = true := q2.out.trans (by rw [h34]; rfl)
              | (have t2 : ((s[k].toNat : Int) == 34) = false := q2.out.trans (by rw [hor.resolve_left h34]; rfl)
                 have t3 : ((s[k].toNat : Int) == 92) = true := q3.out.trans (by rw [hor.resolve_left h34]; rfl))
            clear h34 hor
            go_wp2_with fail
            refine (wb B _ 92 _ hbl.out (by have := HL.out; omega) hs1).mono ?_
            rintro e w2 ⟨rfl, g1, g2⟩
            have G := hide g1
            have G2 := hide (hb.out.trans g2)
            have hs2 : B ≤ w2.heap.size := Nat.le_trans hs1 g2.size
            clear g1 g2
            go_wp2_with fail
            refine (wb B _ s[k] _ G.out (by have := HL.out; simp at this ⊢; omega) hs2).mono ?_
            rintro e w3 ⟨rfl, g1, g2⟩
            have G3 := hide (show Bld B (34 :: quoteB (s.data.toList.take (k + 1))) w3 from by
              rw [htk.out, quoteB_snoc, HH1.out, HH2.out]; simpa using g1)
            have G4 := hide (G2.out.trans g2)
            have hs3 : B ≤ w3.heap.size := Nat.le_trans hs2 g2.size
            clear g1 g2 G G2
            go_wp2_with fail
            go_roundw
            case rel => exact ⟨k + 1, by omega, by go_num, hs3, G3, G4⟩
            case measure => simp [intOf]; omega
      · have t1 : ((s[k].toNat : Int) == 10) = true := q1.out.trans h1
        have HH1 := hide h1
        clear h1
        go_wp2_with fail
        refine (ws B _ ⟨#[92, 110]⟩ _ hbl.out (by have := HL.out; rw [show (ByteArray.mk #[92, 110]).size = 2 from rfl]; omega) hs1).mono ?_
        rintro e w2 ⟨rfl, g1, g2⟩
        have G := hide (show Bld B (34 :: quoteB (s.data.toList.take (k + 1))) w2 from by
          rw [htk.out, quoteB_snoc, HH1.out]; exact g1)
        have G2 := hide (hb.out.trans g2)
        have hs2 : B ≤ w2.heap.size := Nat.le_trans hs1 g2.size
        clear g1 g2
        go_wp2_with fail
        go_roundw
        case rel => exact ⟨k + 1, by omega, by go_num, hs2, G, G2⟩
        case measure => simp [intOf]; omega
    · obtain rfl : s.size = k := by omega
      have hl : (34 :: quoteB (s.data.toList.take s.size)).length ≤ 2000001 := by
        have := quoteB_len2 (s.data.toList.take s.size)
        rw [List.length_take, size_list] at this
        simp; omega
      have HL := hide hl
      clear hl
      go_wp2_with fail
      refine (wb B _ 34 _ hbl.out (by have := HL.out; omega) hs1).mono ?_
      rintro e w2 ⟨rfl, g1, g2⟩
      have G := hide g1
      have G2 := hide (hb.out.trans g2)
      have hs2 : B ≤ w2.heap.size := Nat.le_trans hs1 g2.size
      clear g1 g2
      go_wp2_with fail
      refine (wstr B _ _ G.out hs2).mono ?_
      rintro e w3 ⟨rfl, g2⟩
      have G3 := hide (G2.out.trans g2)
      clear g2
      go_wp2_with fail
      go_ret
      refine ⟨ret_str ?_, G3.out⟩
      rw [List.take_of_length_le (by rw [size_list]; omega)]
      rfl

theorem esc_index (c : UInt8) (n : Int) (hn : Lib.indexByte [92, 34, 110] c = n) (w : World) :
    Calls Tryz.prog 89 #[.string ⟨#[92, 34, 110]⟩, .int .u8 (c.toNat : Int)] w fun e w' => e = .returned (.int .i64 n) ∧ w = w' := by
  refine (Tryz.strings_IndexByte ⟨#[92, 34, 110]⟩ c.toNat w).mono ?_
  rintro e w' ⟨rfl, rfl⟩
  refine ⟨?_, rfl⟩
  rw [show (ByteArray.mk #[92, 34, 110]).data.toList = [92, 34, 110] from rfl, show ((c.toNat : Int)).toNat.toUInt8 = c by simp, hn]
theorem esc_none (c : UInt8) (h : (c == 92 || c == 34 || c == 110) = false) : Lib.indexByte [92, 34, 110] c = -1 := by
  simp only [Bool.or_eq_false_iff, beq_eq_false_iff_ne, ne_eq] at h
  obtain ⟨⟨h1, h2⟩, h3⟩ := h
  have e1 : ((92 : UInt8) == c) = false := by simpa using fun e => h1 e.symm
  have e2 : ((34 : UInt8) == c) = false := by simpa using fun e => h2 e.symm
  have e3 : ((110 : UInt8) == c) = false := by simpa using fun e => h3 e.symm
  simp [Lib.indexByte, e1, e2, e3]

def unqEnd : Option (L × Nat) → Value
  | none => .tuple #[.string ⟨#[]⟩, .int .i64 0]
  | some (t, n) => .tuple #[.string ⟨t.toArray⟩, .int .i64 ((n + 1 : Nat) : Int)]

set_option maxHeartbeats 2000000 in
theorem unquoted_any (s : ByteArray) (w : World) (hs : s.size ≤ 1000000) (h0 : 1 ≤ s.size) :
    Calls Tryz.prog 71 #[.string s] w fun e w' => e = .returned (unqEnd (str (s.data.toList.drop 1))) ∧ Below w.heap.size w w' := by
  obtain ⟨R, hR⟩ : ∃ R, R = str (s.data.toList.drop 1) := ⟨_, rfl⟩
  rw [← hR]
  have HR := hide hR
  clear hR
  obtain ⟨B, hB⟩ : ∃ B, B = w.heap.size := ⟨_, rfl⟩
  have hst := Bld.start w
  rw [← hB] at hst ⊢
  have HST := hide hst
  have HBE := hide hB
  have hB1 : B ≤ w.heap.size := by omega
  have hb0 : Below B w (w.alloc (.cells #[.pointer none, .slice none 0 0] 56)) := (Below.refl _ _).alloc hB1 _
  have HB0 := hide hb0
  have hsz0 : B ≤ (w.alloc (.cells #[.pointer none, .slice none 0 0] 56)).heap.size := by simp; omega
  clear hst hB hb0
  go_enter Tryz.func71, Tryz.ntmps71
  go_wp2_with fail
  rw [← HBE.out]
  go_loopw [5] (fun i wr => ∃ (k : Nat) (q : L), 1 ≤ k ∧ k ≤ s.size ∧ q.length ≤ k ∧ i = .int .i64 k ∧ B ≤ wr.heap.size ∧ Hid (Bld B q wr) ∧ Hid (Below B w wr) ∧ Hid (R = behind q (k - 1) (strM false (s.data.toList.drop k)))) (fun i _ => s.size - (intOf i).toNat)
  case atStart =>
    refine ⟨1, [], by omega, by omega, by simp, rfl, by simpa using hsz0, HST, HB0, ?_⟩
    show _ = _
    rw [HR.out]
    unfold str behind
    cases strM false (s.data.toList.drop 1) <;> simp
  case round =>
    clear HST HB0 hsz0 HR
    obtain ⟨k, q, h1k, hk, hq, rfl, hs1, hbl, hb, hrel⟩ := hrel
    by_cases hlt : k < s.size
    · have hd := hide (drop_cons s k hlt)
      have q1 := hide (u8_eq s[k] 34)
      have q2 := hide (u8_eq s[k] 10)
      have q3 := hide (u8_eq s[k] 92)
      cases h1 : (s[k] == 34)
      · have t1 : ((s[k].toNat : Int) == 34) = false := q1.out.trans h1
        have H1 := hide h1
        clear h1
        cases h2 : (s[k] == 10)
        · have t2 : ((s[k].toNat : Int) == 10) = false := q2.out.trans h2
          have H2 := hide h2
          clear h2
          cases h3 : (s[k] == 92)
          · have t3 : ((s[k].toNat : Int) == 92) = false := q3.out.trans h3
            have H3 := hide h3
            clear h3
            go_wp2_with fail
            refine (wb B q s[k] _ hbl.out (by omega) hs1).mono ?_
            rintro e w2 ⟨rfl, g1, g2⟩
            have G := hide g1
            have G2 := hide (hb.out.trans g2)
            have hs2 : B ≤ w2.heap.size := Nat.le_trans hs1 g2.size
            have fin : Hid (R = behind (q ++ [s[k]]) (k + 1 - 1) (strM false (s.data.toList.drop (k + 1)))) := by
              show _ = _
              rw [hrel.out, hd.out, strM_cons, H1.out, H2.out, H3.out]
              unfold behind
              cases strM false (s.data.toList.drop (k + 1)) <;> simp
              omega
            clear g1 g2
            go_wp2_with fail
            go_roundw
            case rel => exact ⟨k + 1, _, by omega, by omega, by simp; omega, by go_num, hs2, G, G2, fin⟩
            case measure => simp [intOf]; omega
          · have t3 : ((s[k].toNat : Int) == 92) = true := q3.out.trans h3
            have H3 := hide h3
            clear h3
            by_cases hlt2 : k + 1 < s.size
            · have hd2 := hide (drop_cons s (k + 1) hlt2)
              cases h4 : (s[k + 1] == 92 || s[k + 1] == 34 || s[k + 1] == 110)
              · have c1 := hide (esc_index _ _ (esc_none _ h4))
                have H4 := hide h4
                clear h4
                go_wp2_with fail
                refine (c1.out _).mono ?_
                rintro e w2 ⟨rfl, rfl⟩
                go_wp2_with fail
                go_ret2
                refine ⟨ret_val ?_, hb.out⟩
                rw [hrel.out, hd.out, strM_cons, H1.out, H2.out, H3.out, hd2.out, strM_esc, H4.out]
                rfl
              · have H4 := hide h4
                have hor : (s[k + 1] = 92 ∨ s[k + 1] = 34) ∨ s[k + 1] = 110 := by simpa using h4
                clear h4
                have fin : ∀ x : UInt8, x = (if s[k + 1] == 110 then 10 else s[k + 1]) → Hid (R = behind (q ++ [x]) (k + 2 - 1) (strM false (s.data.toList.drop (k + 2)))) := by
                  rintro x rfl
                  show _ = _
                  rw [hrel.out, hd.out, strM_cons, H1.out, H2.out, H3.out, hd2.out, strM_esc, H4.out]
                  unfold behind
                  cases strM false (s.data.toList.drop (k + 2)) <;> simp
                  omega
                have FIN := hide fin
                clear fin
                have idx : ∃ (n : Nat) (x : UInt8), n < 3 ∧ Lib.indexByte [92, 34, 110] s[k + 1] = (n : Int) ∧ (ByteArray.mk #[92, 34, 10]).data.toList[n]? = some x ∧ x = (if s[k + 1] == 110 then 10 else s[k + 1]) := by
                  rcases hor with (h | h) | h
                  · exact ⟨0, 92, by omega, by rw [h]; rfl, rfl, by rw [h]; rfl⟩
                  · exact ⟨1, 34, by omega, by rw [h]; rfl, rfl, by rw [h]; rfl⟩
                  · exact ⟨2, 10, by omega, by rw [h]; rfl, rfl, by rw [h]; rfl⟩
                clear hor
                obtain ⟨n, x, hn3, hn, hx, hxe⟩ := idx
                have c1 := hide (esc_index _ _ hn)
                have F := FIN.out x hxe
                clear FIN hn hxe
                match n, hn3, hx, c1 with
                | 0, _, hx, c1 | 1, _, hx, c1 | 2, _, hx, c1 =>
                  simp at hx
                  subst hx
                  go_wp2_with fail
                  refine (c1.out _).mono ?_
                  rintro e w2 ⟨rfl, rfl⟩
                  go_wp2_with fail
                  refine (wb B q _ _ hbl.out (by omega) hs1).mono ?_
                  rintro e w2 ⟨rfl, g1, g2⟩
                  have G := hide g1
                  have G2 := hide (hb.out.trans g2)
                  have hs2 : B ≤ w2.heap.size := Nat.le_trans hs1 g2.size
                  clear g1 g2
                  go_wp2_with fail
                  go_roundw
                  case rel => exact ⟨k + 2, _, by omega, by omega, by simp; omega, by go_num, hs2, G, G2, F⟩
                  case measure => simp [intOf]; omega
            · go_wp2_with fail
              go_ret2
              refine ⟨ret_val ?_, hb.out⟩
              rw [hrel.out, hd.out, strM_cons, H1.out, H2.out, H3.out, drop_end s (k + 1) hlt2]
              rfl
        · have t2 : ((s[k].toNat : Int) == 10) = true := q2.out.trans h2
          have H2 := hide h2
          clear h2
          go_wp2_with fail
          go_ret2
          refine ⟨ret_val ?_, hb.out⟩
          rw [hrel.out, hd.out, strM_cons, H1.out, H2.out]
          rfl
      · have t1 : ((s[k].toNat : Int) == 34) = true := q1.out.trans h1
        have H1 := hide h1
        clear h1
        go_wp2_with fail
        refine (wstr B q _ hbl.out hs1).mono ?_
        rintro e w2 ⟨rfl, g2⟩
        have G2 := hide (hb.out.trans g2)
        clear g2
        go_wp2_with fail
        go_ret2
        refine ⟨ret_val ?_, G2.out⟩
        rw [hrel.out, hd.out, strM_cons, H1.out]
        simp [behind, unqEnd]
        omega
    · go_wp2_with fail
      go_ret2
      refine ⟨ret_val ?_, hb.out⟩
      rw [hrel.out, drop_end s k hlt]
      rfl
