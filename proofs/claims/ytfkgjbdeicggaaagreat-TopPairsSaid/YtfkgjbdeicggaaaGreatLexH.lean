/-
  The lexer's classes, walked: the array that it returns holds the class of each byte.
-/
import Derived.Test.YtfkgjbdeicggaaaGreatBuild
import Derived.Test.YtfkgjbdeicggaaaGreatShelf
import Derived.Test.YtfkgjbdeicggaaaGreatLexAE
import Derived.Deep.WholeRow
namespace Go.Proofs.YtfkgjbdeicggaaaGreat
open Go.RowKit Go.Proofs.PlLex

def zeros : Array Value := Array.replicate 256 (.int .u8 0)
@[go_sem] theorem zero_classes (w : World) : (zeroValue 220).run Tryz.prog w = .ok (.agg zeros) w := by kernel_rfl

/-- The class of a byte, before the last three. -/
def cls0 (k : Nat) : Nat :=
  let c := UInt8.ofNat k
  if isLetter c then 3 else if isDigit c then 4 else if isBlank c then 1 else if isSym c then 6 else 0
def cls (k : Nat) : Nat := if k = 35 then 2 else if k = 95 then 5 else if k = 34 then 7 else cls0 k
def clsV0 (k : Nat) : Value := .int .u8 (cls0 k : Int)
def clsV (k : Nat) : Value := .int .u8 (cls k : Int)
def clsArr : Array Value := ((List.range 256).map clsV).toArray
def partL (k : Nat) : List Value := (List.range k).map clsV0 ++ List.replicate (256 - k) (.int .u8 0)
def partA (k : Nat) : Array Value := (partL k).toArray
theorem partA_size (k : Nat) (h : k ≤ 256) : (partA k).size = 256 := by
  simp [partA, partL]; omega
theorem partA_at (k : Nat) (h : k < 256) : (partA k)[k]? = some (.int .u8 0) := by
  simp only [partA, List.getElem?_toArray, partL]
  rw [List.getElem?_append_right (by simp), List.getElem?_replicate]
  rw [if_pos (by simp; omega)]
theorem partA_zero : partA 0 = zeros := by
  simp only [partA, partL, List.range_zero, List.map_nil, List.nil_append, Nat.sub_zero, zeros]
  exact List.toArray_replicate ..
theorem partA_set (k : Nat) (h : k < 256) (v : Value) (hv : v = clsV0 k) : (partA k).setIfInBounds k v = partA (k + 1) := by
  subst hv
  simp only [partA, partL, List.setIfInBounds_toArray]
  congr 1
  rw [List.range_succ, List.map_append, List.set_append_right _ _ (by simp)]
  simp only [List.length_map, List.length_range, Nat.sub_self, List.map_cons, List.map_nil, List.append_assoc]
  congr 1
  obtain ⟨m, hm⟩ : ∃ m, 256 - k = m + 1 := ⟨255 - k, by omega⟩
  rw [hm, show 256 - (k + 1) = m by omega, List.replicate_succ]
  rfl
theorem partA_stay (k : Nat) (h : k < 256) (hv : cls0 k = 0) : partA (k + 1) = partA k := by
  rw [← partA_set k h (.int .u8 0) (by rw [clsV0, hv]; rfl)]
  apply Array.ext_getElem?
  intro i
  rw [Array.getElem?_setIfInBounds]
  split
  · rename_i e
    subst e
    rw [partA_at k h, if_pos (by rw [partA_size k (by omega)]; exact h)]
  · rfl
theorem partA_full (k : Nat) (h : k < 256) : (partA 256)[k]? = some (clsV0 k) := by
  simp only [partA, List.getElem?_toArray, partL]
  simp [h]
theorem cls_final : (((partA 256).setIfInBounds 35 (.int .u8 2)).setIfInBounds 95 (.int .u8 5)).setIfInBounds 34 (.int .u8 7) = clsArr := by
  apply Array.ext_getElem?
  intro i
  have hsz := partA_size 256 (Nat.le_refl _)
  have harr : ∀ i, i < 256 → clsArr[i]? = some (clsV i) := by
    intro i hi
    simp [clsArr, hi]
  simp only [Array.getElem?_setIfInBounds, Array.size_setIfInBounds, hsz]
  by_cases h34 : 34 = i
  · subst h34; rw [harr 34 (by omega)]; rfl
  · rw [if_neg h34]
    by_cases h95 : 95 = i
    · subst h95; rw [harr 95 (by omega)]; rfl
    · rw [if_neg h95]
      by_cases h35 : 35 = i
      · subst h35; rw [harr 35 (by omega)]; rfl
      · rw [if_neg h35]
        by_cases hi : i < 256
        · rw [partA_full i hi, harr i hi]
          simp only [clsV, cls, clsV0]
          rw [if_neg (fun e => h35 e.symm), if_neg (fun e => h95 e.symm), if_neg (fun e => h34 e.symm)]
        · rw [Array.getElem?_eq_none (by rw [hsz]; omega), Array.getElem?_eq_none (by simp [clsArr]; omega)]
theorem clsArr_size : clsArr.size = 256 := by simp [clsArr]
theorem clsArr_one : clsArr.all (·.oneCell') = true := by
  rw [Array.all_eq_true_iff_forall_mem]
  intro v hv
  simp only [clsArr, List.mem_toArray, List.mem_map] at hv
  obtain ⟨k, _, rfl⟩ := hv
  rfl
theorem info_classes : (Tryz.prog.info? 220).map (·.size) = some 256 := by kernel_rfl

theorem at_u8 (k : Nat) (h : k < 256) : (UInt8.ofNat k).toNat = k := by simp; omega
theorem letter_k (k : Nat) (h : k < 256) : isLetter (UInt8.ofNat k) = (decide (97 ≤ k ∧ k ≤ 122) || decide (65 ≤ k ∧ k ≤ 90)) := by
  rw [Bool.eq_iff_iff]; simp [isLetter, UInt8.le_iff_toNat_le, at_u8 k h]
theorem digit_k (k : Nat) (h : k < 256) : isDigit (UInt8.ofNat k) = decide (48 ≤ k ∧ k ≤ 57) := by
  rw [Bool.eq_iff_iff]; simp [isDigit, UInt8.le_iff_toNat_le, at_u8 k h]

/-- A byte in a short text: what strings.IndexByte says of it. -/
theorem index_contains (l : L) (c : UInt8) : decide (0 ≤ Lib.indexByte l c) = hasB l c := by
  induction l with
  | nil => rfl
  | cons x l ih =>
    rw [hasB_cons, ← ih]
    have hge := Lib.indexByte_ge l c
    by_cases h : x = c
    · subst h
      simp [Lib.indexByte]
    · have h1 : (x == c) = false := by simpa using h
      rw [h1, Bool.false_or]
      simp only [Lib.indexByte, h1, Bool.false_eq_true, if_false]
      by_cases h2 : Lib.indexByte l c = -1
      · simp [h2]
      · have h3 : (Lib.indexByte l c == -1) = false := by simpa using h2
        simp only [h3, Bool.false_eq_true, if_false]
        rw [Bool.eq_iff_iff]
        simp
        omega

theorem index_blank (k : Nat) (w : World) (b : Bool) (hb : isBlank (UInt8.ofNat k) = b) :
    Calls Tryz.prog 190 #[.string ⟨#[32, 9, 10]⟩, .int .u8 (k : Int)] w fun e w' => (∃ n : Int, e = .returned (.int .i64 n) ∧ decide (0 ≤ n) = b) ∧ w = w' := by
  refine (Tryz.strings_IndexByte ⟨#[32, 9, 10]⟩ k w).mono ?_
  rintro e w' ⟨rfl, rfl⟩
  refine ⟨⟨_, rfl, ?_⟩, rfl⟩
  rw [index_contains, show (ByteArray.mk #[32, 9, 10]).data.toList = [32, 9, 10] from rfl, blank_has]
  exact hb
theorem index_sym (k : Nat) (w : World) (b : Bool) (hb : isSym (UInt8.ofNat k) = b) :
    Calls Tryz.prog 190 #[.string ⟨#[59, 44, 46, 58, 40, 41, 123, 125, 91, 93, 61, 60, 62, 47, 45]⟩, .int .u8 (k : Int)] w fun e w' => (∃ n : Int, e = .returned (.int .i64 n) ∧ decide (0 ≤ n) = b) ∧ w = w' := by
  refine (Tryz.strings_IndexByte ⟨#[59, 44, 46, 58, 40, 41, 123, 125, 91, 93, 61, 60, 62, 47, 45]⟩ k w).mono ?_
  rintro e w' ⟨rfl, rfl⟩
  refine ⟨⟨_, rfl, ?_⟩, rfl⟩
  rw [index_contains, show (ByteArray.mk #[59, 44, 46, 58, 40, 41, 123, 125, 91, 93, 61, 60, 62, 47, 45]).data.toList = [59, 44, 46, 58, 40, 41, 123, 125, 91, 93, 61, 60, 62, 47, 45] from rfl, sym_has]
  exact hb

/-- What the loop keeps: the two blocks. -/
def ClsRel (B k : Nat) (w wr : World) : Prop :=
  wr.heap[B + 1]? = some (.cells (partA k) 220 (0, 0)) ∧ wr.heap[B]? = some (.cells zeros 220 (0, 0)) ∧ Below B w wr
theorem ClsRel.start (w : World) : ClsRel w.heap.size 0 w ((w.alloc (.cells zeros 220)).alloc (.cells zeros 220)) := by
  refine ⟨?_, ?_, ((Below.refl _ _).alloc (Nat.le_refl _) _).alloc (by simp) _⟩
  · rw [partA_zero]
    have := heap_alloc_new (w.alloc (.cells zeros 220)) (.cells zeros 220)
    rwa [World.size_alloc] at this
  · rw [Below.heap_alloc _ _ _ (by simp)]
    exact heap_alloc_new w _
theorem ClsRel.cell {B k : Nat} {w wr : World} (h : ClsRel B k w wr) (i : Nat) : wr.cell? ⟨B + 1, i, none⟩ = (partA k)[i]? := cell_of_row wr _ i _ _ _ h.1
theorem ClsRel.frozen {B k : Nat} {w wr : World} (h : ClsRel B k w wr) (i : Nat) : wr.frozen? ⟨B + 1, i, none⟩ = false := by
  have := h.1
  simp [World.frozen?, this]
theorem ClsRel.set_ {B k : Nat} {w wr : World} (h : ClsRel B k w wr) (hk : k < 256) (v : Value) (hv : v = clsV0 k) : ClsRel B (k + 1) w (wr.setCell ⟨B + 1, k, none⟩ v) := by
  obtain ⟨h1, h2, h3⟩ := h
  refine ⟨?_, ?_, h3.setCell (p := ⟨B + 1, k, none⟩) (Nat.le_succ _) _⟩
  · rw [← partA_set k hk v hv]
    simp [World.setCell, Array.getElem?_modify, h1]
  · rw [Below.heap_setCell _ _ _ _ (by simp)]
    exact h2
theorem ClsRel.stay {B k : Nat} {w wr : World} (h : ClsRel B k w wr) (hk : k < 256) (hv : cls0 k = 0) : ClsRel B (k + 1) w wr := by
  obtain ⟨h1, h2, h3⟩ := h
  exact ⟨by rw [partA_stay k hk hv]; exact h1, h2, h3⟩

set_option maxRecDepth 100000 in
set_option maxHeartbeats 2000000 in
theorem classes_any (w : World) :
    Calls Tryz.prog 129 #[] w fun e w' => e = .returned (.agg clsArr) ∧ Below w.heap.size w w' := by
  have hst := ClsRel.start w
  have HST := hide hst
  clear hst
  go_enter Tryz.func129, Tryz.ntmps129
  go_wp2
  go_loopw [4] (fun i wr => ∃ k : Nat, k ≤ 256 ∧ i = .int .i64 k ∧ Hid (ClsRel w.heap.size k w wr)) (fun i _ => 256 - (intOf i).toNat)
  case atStart => exact ⟨0, Nat.zero_le _, rfl, HST⟩
  case round =>
    clear HST
    obtain ⟨k, hk, rfl, hrel⟩ := hrel
    by_cases hlt : k < 256
    · have c1 : wr.cell? ⟨w.heap.size + 1, k, none⟩ = some (.int .u8 0) := (hrel.out.cell k).trans (partA_at k hlt)
      have f1 := hrel.out.frozen k
      cases hl : isLetter (UInt8.ofNat k)
      · have hl2 := hl
        rw [letter_k k hlt, Bool.or_eq_false_iff, decide_eq_false_iff_not, decide_eq_false_iff_not] at hl2
        have e1 : k < 97 ∨ 122 < k := by omega
        have e2 : k < 65 ∨ 90 < k := by omega
        clear hl2
        cases hd : isDigit (UInt8.ofNat k)
        · have hd2 := hd
          rw [digit_k k hlt, decide_eq_false_iff_not] at hd2
          have e3 : k < 48 ∨ 57 < k := by omega
          clear hd2
          have e12 : k < 65 ∨ (90 < k ∧ k < 97) ∨ 122 < k := by omega
          clear e1 e2
          cases hb : isBlank (UInt8.ofNat k)
          · have C1 := hide (fun w => index_blank k w _ hb)
            cases hs : isSym (UInt8.ofNat k)
            · have C2 := hide (fun w => index_sym k w _ hs)
              have hnew := hrel.out.stay hlt (by simp only [cls0, hl, hd, hb, hs]; rfl)
              have HN := hide hnew
              clear hnew hl hd hb hs c1 f1 hrel
              rcases e12 with e1 | ⟨e1, e2⟩ | e1 <;> rcases e3 with e3 | e3 <;> try (exfalso; omega)
              all_goals
                go_wp2_with (go_at_call 190; first | (refine (C1.out _).mono ?_; rintro e w' ⟨⟨n, rfl, hn⟩, rfl⟩) | (refine (C2.out _).mono ?_; rintro e w' ⟨⟨n2, rfl, hn2⟩, rfl⟩))
                go_roundw
                case rel => exact ⟨k + 1, by omega, by go_num, HN⟩
                case measure => simp [intOf]; omega
            · have C2 := hide (fun w => index_sym k w _ hs)
              have hv : Value.int .u8 6 = clsV0 k := by simp only [clsV0, cls0, hl, hd, hb, hs]; rfl
              have hnew := hrel.out.set_ hlt _ hv
              have HN := hide hnew
              clear hnew hl hd hb hs hv hrel
              rcases e12 with e1 | ⟨e1, e2⟩ | e1 <;> rcases e3 with e3 | e3 <;> try (exfalso; omega)
              all_goals
                go_wp2_with (go_at_call 190; first | (refine (C1.out _).mono ?_; rintro e w' ⟨⟨n, rfl, hn⟩, rfl⟩) | (refine (C2.out _).mono ?_; rintro e w' ⟨⟨n2, rfl, hn2⟩, rfl⟩))
                go_roundw
                case rel => exact ⟨k + 1, by omega, by go_num, HN⟩
                case measure => simp [intOf]; omega
          · have C1 := hide (fun w => index_blank k w _ hb)
            have hv : Value.int .u8 1 = clsV0 k := by simp only [clsV0, cls0, hl, hd, hb]; rfl
            have hnew := hrel.out.set_ hlt _ hv
            have HN := hide hnew
            clear hnew hl hd hb hv hrel
            rcases e12 with e1 | ⟨e1, e2⟩ | e1 <;> rcases e3 with e3 | e3 <;> try (exfalso; omega)
            all_goals
              go_wp2_with (go_at_call 190; refine (C1.out _).mono ?_; rintro e w' ⟨⟨n, rfl, hn⟩, rfl⟩)
              go_roundw
              case rel => exact ⟨k + 1, by omega, by go_num, HN⟩
              case measure => simp [intOf]; omega
        · have hd2 := hd
          rw [digit_k k hlt, decide_eq_true_eq] at hd2
          obtain ⟨d1, d2⟩ := hd2
          have hv : Value.int .u8 4 = clsV0 k := by simp only [clsV0, cls0, hl, hd]; rfl
          have hnew := hrel.out.set_ hlt _ hv
          have HN := hide hnew
          clear hnew hv hl hd e2
          have e1 : k < 97 := by omega
          go_wp2
          go_roundw
          case rel => exact ⟨k + 1, by omega, by go_num, HN⟩
          case measure => simp [intOf]; omega
      · have hl2 := hl
        rw [letter_k k hlt, Bool.or_eq_true, decide_eq_true_eq, decide_eq_true_eq] at hl2
        have hv : Value.int .u8 3 = clsV0 k := by simp only [clsV0, cls0, hl]; rfl
        have hnew := hrel.out.set_ hlt _ hv
        have HN := hide hnew
        clear hnew hv hl
        rcases hl2 with ⟨d1, d2⟩ | ⟨d1, d2⟩
        · go_wp2
          go_roundw
          case rel => exact ⟨k + 1, by omega, by go_num, HN⟩
          case measure => simp [intOf]; omega
        · go_wp2
          go_roundw
          case rel => exact ⟨k + 1, by omega, by go_num, HN⟩
          case measure => simp [intOf]; omega
    · obtain rfl : k = 256 := by omega
      have c1 : wr.cell? ⟨w.heap.size + 1, 35, none⟩ = some (clsV0 35) := (hrel.out.cell 35).trans (partA_full 35 (by omega))
      have c2 : wr.cell? ⟨w.heap.size + 1, 95, none⟩ = some (clsV0 95) := (hrel.out.cell 95).trans (partA_full 95 (by omega))
      have c3 : wr.cell? ⟨w.heap.size + 1, 34, none⟩ = some (clsV0 34) := (hrel.out.cell 34).trans (partA_full 34 (by omega))
      have f1 := hrel.out.frozen 35
      have f2 := hrel.out.frozen 95
      have f3 := hrel.out.frozen 34
      obtain ⟨g1, g2, g3⟩ := hrel.out
      have G1 : Hid ((((wr.setCell ⟨w.heap.size + 1, 35, none⟩ (.int .u8 2)).setCell ⟨w.heap.size + 1, 95, none⟩ (.int .u8 5)).setCell ⟨w.heap.size + 1, 34, none⟩ (.int .u8 7)).heap[w.heap.size + 1]? = some (.cells clsArr 220 (0, 0))) := by
        show _ = _
        rw [← cls_final]
        simp [World.setCell, Array.getElem?_modify, g1]
      have G2 : Hid ((((wr.setCell ⟨w.heap.size + 1, 35, none⟩ (.int .u8 2)).setCell ⟨w.heap.size + 1, 95, none⟩ (.int .u8 5)).setCell ⟨w.heap.size + 1, 34, none⟩ (.int .u8 7)).heap[w.heap.size]? = some (.cells zeros 220 (0, 0))) := by
        show _ = _
        rw [Below.heap_setCell _ _ _ _ (by simp), Below.heap_setCell _ _ _ _ (by simp), Below.heap_setCell _ _ _ _ (by simp)]
        exact g2
      have G3 := hide (((g3.setCell (p := ⟨w.heap.size + 1, 35, none⟩) (Nat.le_succ _) (.int .u8 2)).setCell (p := ⟨w.heap.size + 1, 95, none⟩) (Nat.le_succ _) (.int .u8 5)).setCell (p := ⟨w.heap.size + 1, 34, none⟩) (Nat.le_succ _) (.int .u8 7))
      clear g1 g2 g3 hrel
      go_wp2_with (first
        | (refine wpList_load_row rfl 220 (.tmp 1) rfl (w.heap.size + 1) rfl 220 clsArr (0, 0) _ G1.out Tryz.underlying220 rfl (by rw [clsArr_size]; exact info_classes) ?_)
        | (refine wpList_store_row rfl 220 (.tmp 0) (.tmp 49) rfl w.heap.size clsArr rfl rfl 220 zeros G2.out (by rw [clsArr_size]; exact info_classes) (by rw [clsArr_size]; simp [zeros]) clsArr_one ?_))
      refine bodyPost_ret (v := .agg clsArr) (results_cell_row rfl _ _ w.heap.size 220 clsArr (0, 0) _ rfl (setRow_heap _ _ _ _ _ _ G2.out) Tryz.underlying220 rfl (by rw [clsArr_size]; exact info_classes)) rfl ⟨rfl, ?_⟩
      exact G3.out.trans ⟨rfl, rfl, rfl, by simp [World.setRow], fun i hi => setRow_other _ _ _ _ (by omega)⟩
