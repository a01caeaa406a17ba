/-
  name.Fold, walked: the folded form of a string.
-/
import Derived.Test.YtjniicmhndflpaaLexI
import Derived.Test.YtjniicmhndflpaaPlain2
import Derived.Lib.ConvBytes
import Derived.Lib.AtoiErrMem
import Derived.Laws.IdiomStrings
import Derived.Laws.OwnMore
namespace Go.Proofs.Ytjniicmhndflpaa
open Go.RowKit Go.Proofs.PlLex Go.Proofs.PlName

theorem sep_gives (w : World) : PredAt Try.prog 20 #[] encR sepR w := by
  intro W r _
  unfold FnGives
  have e : encR r = .int .i32 (r : Int) := rfl
  rw [e]
  have hs : sepR r = (decide ((r : Int) = 32) || decide ((r : Int) = 9) || decide ((r : Int) = 10)) := by
    unfold sepR
    rw [Bool.eq_iff_iff]
    simp only [Bool.or_eq_true, beq_iff_eq, decide_eq_true_eq]
    omega
  rw [hs]
  clear hs e
  generalize (r : Int) = z
  by_cases h1 : z = 32
  · subst h1
    go_enter Try.func20, Try.ntmps20
    go_wp2
    go_ret
    exact ⟨rfl, 0, rfl⟩
  · by_cases h2 : z = 9
    · subst h2
      go_enter Try.func20, Try.ntmps20
      go_wp2
      go_ret
      exact ⟨rfl, 0, rfl⟩
    · by_cases h3 : z = 10
      · subst h3
        go_enter Try.func20, Try.ntmps20
        go_wp2
        go_ret
        exact ⟨rfl, 0, rfl⟩
      · have k1 : (z == 32) = false := beq_eq_false_iff_ne.2 h1
        have k2 : (z == 9) = false := beq_eq_false_iff_ne.2 h2
        have k3 : (z == 10) = false := beq_eq_false_iff_ne.2 h3
        have d1 : decide (z = 32) = false := decide_eq_false h1
        have d2 : decide (z = 9) = false := decide_eq_false h2
        have d3 : decide (z = 10) = false := decide_eq_false h3
        rw [d1, d2, d3]
        clear d1 d2 d3
        go_enter Try.func20, Try.ntmps20
        go_wp2
        go_ret
        exact ⟨rfl, 0, rfl⟩

theorem addr_add (g j : Nat) : Addr.add ⟨g, 0, none⟩ j = ⟨g, j, none⟩ := by
  unfold Addr.add
  split
  · rename_i h; subst h; rfl
  · simp
theorem bto {a b c : World} (h : Below a.heap.size a b) (k : Below b.heap.size b c) : Below a.heap.size a c := h.trans (k.mono h.size)
/-! The bytes in place. -/
def foA (l : L) (pad : List Value) (k : Nat) : Array Value := (Lib.byteCells ((l.take k).map lowerB ++ l.drop k) ++ pad).toArray
theorem foA_at (l : L) (pad : List Value) (k : Nat) (h : k < l.length) : (foA l pad k)[k]? = some (.int .u8 ((l[k].toNat : Nat) : Int)) := by
  unfold foA Lib.byteCells
  rw [List.getElem?_toArray, List.getElem?_append_left (by simp; omega), List.getElem?_map, List.getElem?_append_right (by simp only [List.length_map, List.length_take]; exact Nat.min_le_left _ _)]
  simp only [List.length_map, List.length_take, Nat.min_eq_left (Nat.le_of_lt h), Nat.sub_self]
  rw [List.getElem?_drop, Nat.add_zero, List.getElem?_eq_getElem h]
  rfl
theorem foA_set (l : L) (pad : List Value) (k : Nat) (h : k < l.length) : (foA l pad k).setIfInBounds k (.int .u8 ((lowerB l[k]).toNat : Int)) = foA l pad (k + 1) := by
  unfold foA Lib.byteCells
  rw [List.setIfInBounds_toArray]
  congr 1
  rw [List.take_succ_eq_append_getElem h, List.drop_eq_getElem_cons h]
  simp only [List.map_append, List.map_cons, List.map_nil, List.append_assoc, List.cons_append, List.nil_append]
  rw [List.set_append_right _ _ (by simp only [List.length_map, List.length_take]; exact Nat.min_le_left _ _)]
  simp only [List.length_map, List.length_take, Nat.min_eq_left (Nat.le_of_lt h), Nat.sub_self, List.set_cons_zero]
theorem foA_stay (l : L) (pad : List Value) (k : Nat) (h : k < l.length) (e : lowerB l[k] = l[k]) : foA l pad (k + 1) = foA l pad k := by
  unfold foA
  rw [List.take_succ_eq_append_getElem h]
  conv => rhs; rw [List.drop_eq_getElem_cons h]
  simp only [List.map_append, List.map_cons, List.map_nil, List.append_assoc, List.cons_append, List.nil_append, e]
theorem foA_zero (l : L) (pad : List Value) : foA l pad 0 = (Lib.byteCells l ++ pad).toArray := by simp [foA]
theorem foA_end (l : L) (pad : List Value) (j : Nat) (h : j < (l.map lowerB).length) : (foA l pad l.length)[j]? = some (.int .u8 (((l.map lowerB)[j].toNat : Nat) : Int)) := by
  unfold foA Lib.byteCells
  rw [List.take_length, List.drop_length, List.append_nil, List.getElem?_toArray, List.getElem?_append_left (by simpa using h), List.getElem?_map, List.getElem?_eq_getElem h]
  rfl
/-- The memory of Fold. -/
structure FoR (w : World) (b : Nat) (C : Array Value) (W : World) : Prop where
  below : Below w.heap.size w W
  blk : W.heap[b]? = some (.cells C 5 (C.size, C.size + 1))
  hb : w.heap.size ≤ b
theorem FoR.cell {w W : World} {b : Nat} {C : Array Value} (h : FoR w b C W) (i : Nat) : W.cell? ⟨b, i, none⟩ = C[i]? := cell_of_row W _ i _ _ _ h.blk
theorem FoR.frozen {w W : World} {b : Nat} {C : Array Value} (h : FoR w b C W) (i : Nat) (hi : i < C.size) : W.frozen? ⟨b, i, none⟩ = false := by
  have := h.blk
  simp [World.frozen?, this]
  omega
theorem FoR.set_ {w W : World} {b : Nat} {C : Array Value} (h : FoR w b C W) (k : Nat) (v : Value) : FoR w b (C.setIfInBounds k v) (W.setCell ⟨b, k, none⟩ v) := by
  refine ⟨h.below.setCell (p := ⟨b, k, none⟩) h.hb _, ?_, h.hb⟩
  simp [World.setCell, Array.getElem?_modify, h.blk]
theorem lower_up (c : UInt8) (h1 : 65 ≤ (c.toNat : Int)) (h2 : (c.toNat : Int) ≤ 90) : ((lowerB c).toNat : Int) = (c.toNat : Int) + 97 - 65 := by
  have := PlName.all_bytes (fun c => !(decide (65 ≤ c.toNat) && decide (c.toNat ≤ 90)) || decide ((lowerB c).toNat = c.toNat + 32)) (by decide +kernel) c
  simp only [Bool.or_eq_true, Bool.not_eq_true', Bool.and_eq_false_iff, decide_eq_false_iff_not, decide_eq_true_eq] at this
  omega
theorem lower_no (c : UInt8) (h : ¬ (65 ≤ (c.toNat : Int) ∧ (c.toNat : Int) ≤ 90)) : lowerB c = c := by
  have := PlName.all_bytes (fun c => (decide (65 ≤ c.toNat) && decide (c.toNat ≤ 90)) || (lowerB c == c)) (by decide +kernel) c
  simp only [Bool.or_eq_true, Bool.and_eq_true, decide_eq_true_eq, beq_iff_eq] at this
  rcases this with g | g
  · omega
  · exact g
theorem join_len (l : L) : (Go.Lib.join (pieces [] l) [32]).length = (foldL l).length := by unfold foldL; rw [List.length_map]

set_option maxRecDepth 100000 in
set_option maxHeartbeats 8000000 in
theorem fold_any (s : ByteArray) (w : World) (hs : s.size ≤ 100000) :
    Calls Try.prog 7 #[.string s] w fun e w' => e = .returned (.string ⟨(foldL s.data.toList).toArray⟩) ∧ Below w.heap.size w w' := by
  have hJlen : (Go.Lib.join (pieces [] s.data.toList) [32]).length ≤ 100000 := by
    rw [join_len]
    have := foldL_len s.data.toList
    have : s.data.toList.length = s.size := rfl
    omega
  have hfp := fields_pieces s
  have HF := hide (fun w => Try.strings_FieldsFunc 20 #[] (enters_of Try.func20 (by kernel_rfl) rfl) sepR s w (by omega) (sep_gives w))
  obtain ⟨J, hJ⟩ : ∃ J, Go.Lib.join (pieces [] s.data.toList) [32] = J := ⟨_, rfl⟩
  have hfold : foldL s.data.toList = J.map lowerB := by unfold foldL; rw [hJ]
  rw [hfold]
  obtain ⟨X, hX⟩ : ∃ X, Go.Lib.goFieldsP sepR s = X := ⟨_, rfl⟩
  rw [hX] at HF hfp
  rw [hJ] at hJlen
  have hXl : X.length ≤ 100001 := by
    have e := congrArg List.length hfp
    rw [List.length_map] at e
    -- as many pieces as bytes
    have : ∀ (l cur : L), (pieces cur l).length ≤ l.length + 1 := by
      intro l
      induction l with
      | nil => intro cur; unfold pieces; split <;> simp
      | cons c l ih =>
        intro cur
        unfold pieces
        split
        · split
          · have := ih []; simp only [List.length_cons]; omega
          · have := ih []; simp only [List.length_cons]; omega
        · have := ih (cur ++ [c]); simp only [List.length_cons]; omega
    have h2 := this s.data.toList []
    have : s.data.toList.length = s.size := rfl
    omega
  rw [← hfp] at hJ
  have HJ := hide hJ
  clear hJ hfp hX hfold
  go_enter Try.func7, Try.ntmps7
  go_wp2_with fail
  refine (HF.out _).mono ?_
  rintro _ w1 ⟨A1, rfl, hA1, hrow, hb1⟩
  have hcells : ∀ (j : Nat) x, X[j]? = some x → w1.cell? ⟨A1, 0 + j, none⟩ = some (.string x) := by
    intro j x hj
    have hjl := (List.getElem?_eq_some_iff.1 hj).1
    rw [Nat.zero_add, hrow.cellAt j (by omega), List.getElem?_map, hj]
    rfl
  have hA2 : A1 < w1.heap.size := (hrow.lt A1 rfl).2
  have hjc := Try.strings_Join A1 0 X.length X ⟨#[32]⟩ w1 hcells hA2 (by omega) (Nat.le_refl _) (by
    have := HJ.out
    show (Go.Lib.join (X.map (fun x => x.data.toList)) [32]).length ≤ _
    rw [this]; omega)
  rw [show (ByteArray.mk #[32]).data.toList = [32] from rfl, HJ.out] at hjc
  have HJC := hide hjc
  have HB1 := hide hb1
  clear hcells hA2 hrow hA1 hb1 hjc
  go_wp2_with fail
  refine HJC.out.mono ?_
  rintro _ w2 ⟨rfl, hb2⟩
  have HB2 := hide (bto HB1.out hb2)
  clear hb2
  have hcv := Go.Lib.run_convert_string_bytes (P := Try.prog) w2 9 52 5 ⟨J.toArray⟩ Try.underlying9 Try.underlying52 Try.underlying5
  have hbw := Go.Lib.bytesWorld_below w2 5 ⟨J.toArray⟩
  have hnew := Go.Lib.bytesWorld_at_new w2 5 ⟨J.toArray⟩
  have hC : Go.Lib.bytesCells w2 5 ⟨J.toArray⟩ = foA J (List.replicate (grownCap w2 J.length 0 5 - J.length) (.int .u8 0)) 0 := by
    rw [foA_zero]
    unfold Go.Lib.bytesCells Go.Lib.byteCells
    apply Array.ext'
    simp [ByteArray.size]
  have hJs : (ByteArray.mk J.toArray).size = J.length := by simp [ByteArray.size]
  rw [hJs] at hcv
  rw [hC] at hnew
  generalize Go.Lib.bytesWorld w2 5 ⟨J.toArray⟩ = W3 at *
  generalize List.replicate (grownCap w2 J.length 0 5 - J.length) (Value.int .u8 0) = pad at *
  generalize grownCap w2 J.length 0 5 = cap at *
  have HM3 := hide (show FoR w w2.heap.size (foA J pad 0) W3 from ⟨bto HB2.out hbw, hnew, HB2.out.size⟩)
  clear hbw hnew hC hJs
  go_wp2_with fail
  go_loopw [14] (fun i wr => ∃ k : Nat, k ≤ J.length ∧ i = .int .i64 k ∧ Hid (FoR w w2.heap.size (foA J pad k) wr)) (fun i _ => J.length - (intOf i).toNat)
  case atStart => exact ⟨0, Nat.zero_le _, rfl, HM3⟩
  case round =>
    obtain ⟨k, hk, rfl, hm⟩ := hrel
    by_cases hlt : k < J.length
    · have c1 := (hm.out.cell k).trans (foA_at J pad k hlt)
      have f1 := hm.out.frozen k (by
        have := foA_at J pad k hlt
        exact (Array.getElem?_eq_some_iff.1 this).1)
      have k0 : (0 : Int) ≤ k := by omega
      have k1 : (k : Int) < J.length := by omega
      have hset := hm.out.set_ k (.int .u8 ((lowerB J[k]).toNat : Int))
      rw [foA_set J pad k hlt] at hset
      obtain ⟨b, hbk⟩ : ∃ b, J[k] = b := ⟨_, rfl⟩
      rw [hbk] at c1 hset
      have HST := hide (fun (e : lowerB b = b) => (show FoR w w2.heap.size (foA J pad (k + 1)) wr from by rw [foA_stay J pad k hlt (by rw [hbk]; exact e)]; exact hm.out))
      clear hbk
      by_cases hu : 65 ≤ (b.toNat : Int) ∧ (b.toNat : Int) ≤ 90
      · rw [lower_up b hu.1 hu.2] at hset
        have HN := hide hset
        obtain ⟨u1, u2⟩ := hu
        have HL := hide hlt
        have HMS := hide (show J.length - (k + 1) < J.length - k from by omega)
        clear hset hm hlt HST
        generalize (b.toNat : Int) = c at *
        go_wp2_with fail
        refine ⟨⟨k + 1, HL.out, by go_num, HN⟩, ?_⟩
        have := HMS.out
        simp [intOf]; omega
      · have HN := hide (HST.out (lower_no b hu))
        have HL := hide hlt
        have HMS := hide (show J.length - (k + 1) < J.length - k from by omega)
        clear hset hm hlt HST
        generalize (b.toNat : Int) = c at *
        by_cases u1 : 65 ≤ c
        · have u2 : ¬ c ≤ 90 := fun g => hu ⟨u1, g⟩
          clear hu
          go_wp2_with fail
          refine ⟨⟨k + 1, HL.out, by go_num, HN⟩, ?_⟩
          have := HMS.out
          simp [intOf]; omega
        · clear hu
          go_wp2_with fail
          refine ⟨⟨k + 1, HL.out, by go_num, HN⟩, ?_⟩
          have := HMS.out
          simp [intOf]; omega
    · obtain rfl : k = J.length := by omega
      have hb := run_convert_bytes_back (P := Try.prog) wr 52 9 5 ⟨w2.heap.size, 0, none⟩ cap (J.map lowerB) Try.underlying52 Try.underlying5 Try.underlying9 (fun j hj => by
        rw [addr_add, hm.out.cell j]
        exact foA_end J pad j hj)
      rw [List.length_map] at hb
      have HB9 := hide hm.out.below
      clear hm
      go_wp2_with fail
      go_ret
      exact ⟨rfl, HB9.out⟩
end Go.Proofs.Ytjniicmhndflpaa
