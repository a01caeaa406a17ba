/-
  The law's head, walked: the example of the chapter.
-/
import Derived.Test.YtjniicmhndflpaaNamM
namespace Go.Proofs.Ytjniicmhndflpaa
open Go.RowKit Go.Proofs.PlLex Go.Proofs.PlName

def sName : ByteArray := ⟨#[110, 97, 109, 101]⟩
def sRome : ByteArray := ⟨#[82, 111, 109, 101]⟩
def sNameIt : ByteArray := ⟨#[110, 97, 109, 101, 95, 105, 116]⟩
def sRoma : ByteArray := ⟨#[82, 111, 109, 97]⟩
def sIt : ByteArray := ⟨#[105, 116]⟩
def sDe : ByteArray := ⟨#[100, 101]⟩
def sE : ByteArray := ⟨#[]⟩
def l0 : List Tg := [⟨sName, sRome⟩, ⟨sNameIt, sRoma⟩]
theorem st_new (w : World) (L : List ByteArray) (t : TypeId) : StS (w.alloc (.cells (strsV L).toArray t)) (.slice (some ⟨w.heap.size, 0, none⟩) L.length L.length) L := by
  refine ⟨_, _, rfl, Nat.le_refl _, ?_⟩
  by_cases h : L = []
  · exact .inl h
  · refine .inr ⟨w.heap.size, 0, rfl, by simp, fun i s hi => ?_⟩
    rw [Nat.zero_add, World.cell?, heap_alloc_new]
    have : ((strsV L).toArray : Array Value)[i]? = some (.string s) := by simp [strsV, hi]
    simp [this]
theorem tg_new (w : World) (t : TypeId) : TgS (w.alloc (.cells #[.string sName, .string sRome, .string sNameIt, .string sRoma] t)) (.slice (some ⟨w.heap.size, 0, none⟩) 2 2) l0 := by
  refine ⟨_, _, rfl, .inr ⟨w.heap.size, 0, rfl, by simp, fun i s hi => ?_⟩⟩
  match i, hi with
  | 0, hi => cases hi; exact ⟨cell_of_row _ _ 0 _ _ _ (heap_alloc_new w _), cell_of_row _ _ 1 _ _ _ (heap_alloc_new w _)⟩
  | 1, hi => cases hi; exact ⟨cell_of_row _ _ 2 _ _ _ (heap_alloc_new w _), cell_of_row _ _ 3 _ _ _ (heap_alloc_new w _)⟩
  | (i + 2), hi => cases hi
theorem l0_sz : ∀ t ∈ l0, t.k.size ≤ 100000 ∧ t.v.size ≤ 100000 := by
  intro t ht
  simp [l0] at ht
  rcases ht with rfl | rfl <;> decide
theorem l0_tags : tagsB l0 = true := by kernel_rfl
theorem l0_best1 : bestR l0 [sIt, sDe] = ⟨sNameIt, sRoma, 0⟩ := by kernel_rfl
theorem l0_best2 : bestR l0 [sDe] = ⟨sName, sRome, 1⟩ := by kernel_rfl
theorem l0_lang : (if tagsB l0 then (namesL l0).map langO else []) = [sE, sIt] := by kernel_rfl
theorem l0_fold : (⟨(foldL [32, 32, 82, 79, 77, 65, 32, 32, 78, 111, 114, 100, 32]).toArray⟩ : ByteArray) = ⟨#[114, 111, 109, 97, 32, 110, 111, 114, 100]⟩ := by kernel_rfl
theorem l0_find : (namesL l0).any (matchB (foldS ⟨#[32, 82, 79, 77, 65]⟩)) = true := by kernel_rfl
theorem l0_miss1 : lacksB ((namesL l0).map langO) [sDe, sIt] = true := by kernel_rfl
theorem l0_miss2 : lacksB ((namesL l0).map langO) [sIt, sE] = false := by kernel_rfl

set_option maxRecDepth 100000 in
set_option maxHeartbeats 8000000 in
theorem head_any (w : World) : Calls Try.prog 6 #[] w fun e w' => e = .returned (.bool true) ∧ Below w.heap.size w w' := by
  obtain ⟨wa, hwa⟩ : ∃ wa, w.alloc (.cells #[.string sName, .string sRome, .string sNameIt, .string sRoma] 42) = wa := ⟨_, rfl⟩
  have ha : Below w.heap.size w wa := by rw [← hwa]; exact (Below.refl _ _).alloc (Nat.le_refl _) _
  have hsa : wa.heap.size = w.heap.size + 1 := by rw [← hwa]; simp
  have HT := hide (hwa ▸ tg_new w 42 : TgS wa (.slice (some ⟨w.heap.size, 0, none⟩) 2 2) l0)
  have HB1 := hide (fun (w' : World) (v : Value) (h : TgS w' (.slice (some ⟨w.heap.size, 0, none⟩) 2 2) l0) (hv : StS w' v [sIt, sDe]) => best_any l0 [sIt, sDe] _ v w' h hv (by decide) (by decide) l0_sz)
  have HB2 := hide (fun (w' : World) (v : Value) (h : TgS w' (.slice (some ⟨w.heap.size, 0, none⟩) 2 2) l0) (hv : StS w' v [sDe]) => best_any l0 [sDe] _ v w' h hv (by decide) (by decide) l0_sz)
  rw [l0_best1] at HB1
  rw [l0_best2] at HB2
  have HLA := hide (fun (w' : World) (h : TgS w' (.slice (some ⟨w.heap.size, 0, none⟩) 2 2) l0) => languages_any l0 _ w' h (by decide) l0_sz)
  rw [l0_lang] at HLA
  have HFO := hide (fun w => fold_any ⟨#[32, 32, 82, 79, 77, 65, 32, 32, 78, 111, 114, 100, 32]⟩ w (by decide))
  simp only [l0_fold] at HFO
  unfold sName sRome sNameIt sRoma at hwa
  go_enter Try.func6, Try.ntmps6
  go_wp2_with fail
  -- Best, twice
  obtain ⟨wb, hwb⟩ : ∃ wb, wa.alloc (.cells #[.string ⟨#[105, 116]⟩, .string ⟨#[100, 101]⟩] 9) = wb := ⟨_, rfl⟩
  have hbb : Below wa.heap.size wa wb := by rw [← hwb]; exact (Below.refl _ _).alloc (Nat.le_refl _) _
  have st1 : StS wb (.slice (some ⟨w.heap.size + 1, 0, none⟩) 2 2) [sIt, sDe] := by rw [← hwb, ← hsa]; exact st_new wa [sIt, sDe] 9
  rw [hwb]
  clear hwb hwa
  have HT1 := hide (HT.out.below hbb)
  refine (HB1.out wb _ HT1.out st1).mono ?_
  rintro _ w1 ⟨rfl, b1⟩
  have HT2 := hide (HT1.out.below b1)
  have hb1 := bto (bto ha hbb) b1
  clear HB1 st1 b1 hbb ha hsa HT HT1
  simp only [sNameIt, sRoma]
  go_wp2_with fail
  obtain ⟨wc, hwc⟩ : ∃ wc, w1.alloc (.cells #[.string ⟨#[100, 101]⟩] 9) = wc := ⟨_, rfl⟩
  have hbc : Below w1.heap.size w1 wc := by rw [← hwc]; exact (Below.refl _ _).alloc (Nat.le_refl _) _
  have st2 : StS wc (.slice (some ⟨w1.heap.size, 0, none⟩) 1 1) [sDe] := by rw [← hwc]; exact st_new w1 [sDe] 9
  rw [hwc]
  clear hwc
  have HT3 := hide (HT2.out.below hbc)
  refine (HB2.out wc _ HT3.out st2).mono ?_
  rintro _ w2 ⟨rfl, b2⟩
  have HT4 := hide (HT3.out.below b2)
  have hb2 := bto (bto hb1 hbc) b2
  clear HB2 st2 b2 hbc HT2 HT3 hb1
  simp only [sName, sRome]
  -- the objects and the map
  obtain ⟨wd, hwd⟩ : ∃ wd, (w2.alloc (.cells #[.string ⟨#[110]⟩, .int .i64 1, .int .i64 0, .int .i64 0, .slice none 0 0, .slice (some ⟨w.heap.size, 0, none⟩) 2 2, .string ⟨#[111]⟩, .int .i64 1, .int .i64 0, .int .i64 0, .slice none 0 0, .slice none 0 0] 46)).alloc (.cells #[.slice (some ⟨w2.heap.size, 0, none⟩) 2 2] 29) = wd := ⟨_, rfl⟩
  have hbd : Below w2.heap.size w2 wd := by rw [← hwd]; exact ((Below.refl _ _).alloc (Nat.le_refl _) _).alloc (by simp) _
  have h2 : Two w2.heap.size (.slice (some ⟨w.heap.size, 0, none⟩) 2 2) wd := ⟨by rw [← hwd]; exact blkB ((Below.refl _ _).alloc (Nat.le_refl _) _) (heap_alloc_new w2 _)⟩
  have hmp : wd.heap[w2.heap.size + 1]? = some (.cells #[.slice (some ⟨w2.heap.size, 0, none⟩) 2 2] 29 (0, 0)) := by
    rw [← hwd]
    have := heap_alloc_new (w2.alloc (.cells #[.string ⟨#[110]⟩, .int .i64 1, .int .i64 0, .int .i64 0, .slice none 0 0, .slice (some ⟨w.heap.size, 0, none⟩) 2 2, .string ⟨#[111]⟩, .int .i64 1, .int .i64 0, .int .i64 0, .slice none 0 0, .slice none 0 0] 46)) (.cells #[.slice (some ⟨w2.heap.size, 0, none⟩) 2 2] 29)
    simpa using this
  have HT5 := hide (HT4.out.below hbd)
  have hbd2 := bto hb2 hbd
  go_wp2_with fail
  clear hwd hb2 hbd HT4
  refine (HLA.out wd HT5.out).mono ?_
  rintro _ w3 ⟨v3, rfl, hs3, b3⟩
  obtain ⟨A3, c3, rfl, hc3, hp3⟩ := hs3
  have hs3 : StS w3 (.slice A3 2 c3) [sE, sIt] := ⟨A3, c3, rfl, hc3, hp3⟩
  clear hc3 hp3 HLA
  have e2 : [sE, sIt].length = 2 := rfl
  rw [e2]
  clear e2
  go_wp2_with fail
  obtain ⟨we, hwwe⟩ : ∃ we, w3.alloc (.cells #[.string ⟨#[]⟩, .string ⟨#[105, 116]⟩] 9) = we := ⟨_, rfl⟩
  have hbwe : Below w3.heap.size w3 we := by rw [← hwwe]; exact (Below.refl _ _).alloc (Nat.le_refl _) _
  have st3 : StS we (.slice (some ⟨w3.heap.size, 0, none⟩) 2 2) [sE, sIt] := by rw [← hwwe]; exact st_new w3 [sE, sIt] 9
  rw [hwwe]
  clear hwwe
  refine (same_any [sE, sIt] [sE, sIt] _ _ we (hs3.below hbwe) st3 (by decide)).mono ?_
  have hsm : sameS [sE, sIt] [sE, sIt] = true := by decide +kernel
  rw [hsm]
  rintro _ w4 ⟨rfl, b4⟩
  clear hs3 st3 hsm
  go_wp2_with fail
  refine (HFO.out w4).mono ?_
  rintro _ w5 ⟨rfl, b5⟩
  have b35 := bto (bto (bto b3 hbwe) b4) b5
  have hmp5 := (blk1 (blkB b35 hmp)).1
  have hb5 := bto hbd2 b35
  have HF5 := hide (find_two w2.heap.size _ l0 ⟨#[32, 82, 79, 77, 65]⟩ w5 (h2.below b35) (HT5.out.below b35) l0_tags (by decide) l0_sz (by decide) l0_find (by decide +kernel))
  clear HFO b3 hbwe b4 b5
  go_wp2_with fail
  refine (HF5.out).mono ?_
  rintro _ w6 ⟨v6, rfl, hs6, b6⟩
  obtain ⟨A6, c6, rfl, hc6, hp6⟩ := hs6
  have hs6 : StS w6 (.slice A6 1 c6) [sN] := ⟨A6, c6, rfl, hc6, hp6⟩
  have e2 : [sN].length = 1 := rfl
  rw [e2]
  clear e2 hc6 hp6 HF5
  go_wp2_with fail
  obtain ⟨wf, hwwf⟩ : ∃ wf, w6.alloc (.cells #[.string ⟨#[110]⟩] 9) = wf := ⟨_, rfl⟩
  have hbwf : Below w6.heap.size w6 wf := by rw [← hwwf]; exact (Below.refl _ _).alloc (Nat.le_refl _) _
  have st6 : StS wf (.slice (some ⟨w6.heap.size, 0, none⟩) 1 1) [sN] := by rw [← hwwf]; exact st_new w6 [sN] 9
  rw [hwwf]
  clear hwwf
  refine (same_any [sN] [sN] _ _ wf (hs6.below hbwf) st6 (by decide)).mono ?_
  have hsm : sameS [sN] [sN] = true := by decide +kernel
  rw [hsm]
  rintro _ w7 ⟨rfl, b7⟩
  have b37 := bto b35 (bto (bto b6 hbwf) b7)
  have hmp7 := (blk1 (blkB b37 hmp)).1
  have hb7 := bto hbd2 b37
  clear hs6 st6 hmp5 hsm b6 hbwf b7
  go_wp2_with fail
  obtain ⟨wg, hwwg⟩ : ∃ wg, w7.alloc (.cells #[.string ⟨#[100, 101]⟩, .string ⟨#[105, 116]⟩] 9) = wg := ⟨_, rfl⟩
  have hbwg : Below w7.heap.size w7 wg := by rw [← hwwg]; exact (Below.refl _ _).alloc (Nat.le_refl _) _
  have st7 : StS wg (.slice (some ⟨w7.heap.size, 0, none⟩) 2 2) [sDe, sIt] := by rw [← hwwg]; exact st_new w7 [sDe, sIt] 9
  rw [hwwg]
  clear hwwg
  have b3g := bto b37 hbwg
  refine (missing_two w2.heap.size _ _ l0 [sDe, sIt] true wg (h2.below b3g) (HT5.out.below b3g) st7 (by decide) l0_tags (by decide) l0_sz (by intro e; cases e) l0_miss1).mono ?_
  rintro _ w8 ⟨v8, rfl, hs8, b8⟩
  obtain ⟨A8, c8, rfl, hc8, hp8⟩ := hs8
  have hs8 : StS w8 (.slice A8 1 c8) [sN] := ⟨A8, c8, rfl, hc8, hp8⟩
  have e2 : (if true = true then [sN] else []).length = 1 := rfl
  rw [e2]
  clear e2 hc8 hp8 st7 hmp7
  go_wp2_with fail
  obtain ⟨wh, hwwh⟩ : ∃ wh, w8.alloc (.cells #[.string ⟨#[110]⟩] 9) = wh := ⟨_, rfl⟩
  have hbwh : Below w8.heap.size w8 wh := by rw [← hwwh]; exact (Below.refl _ _).alloc (Nat.le_refl _) _
  have st8 : StS wh (.slice (some ⟨w8.heap.size, 0, none⟩) 1 1) [sN] := by rw [← hwwh]; exact st_new w8 [sN] 9
  rw [hwwh]
  clear hwwh
  refine (same_any [sN] [sN] _ _ wh (hs8.below hbwh) st8 (by decide)).mono ?_
  have hsm : sameS [sN] [sN] = true := by decide +kernel
  rw [hsm]
  rintro _ w9 ⟨rfl, b9⟩
  have b39 := bto b3g (bto (bto b8 hbwh) b9)
  have hmp9 := (blk1 (blkB b39 hmp)).1
  clear hs8 st8 hsm b8 hbwh b9
  go_wp2_with fail
  obtain ⟨wi, hwwi⟩ : ∃ wi, w9.alloc (.cells #[.string ⟨#[105, 116]⟩, .string ⟨#[]⟩] 9) = wi := ⟨_, rfl⟩
  have hbwi : Below w9.heap.size w9 wi := by rw [← hwwi]; exact (Below.refl _ _).alloc (Nat.le_refl _) _
  have st9 : StS wi (.slice (some ⟨w9.heap.size, 0, none⟩) 2 2) [sIt, sE] := by rw [← hwwi]; exact st_new w9 [sIt, sE] 9
  rw [hwwi]
  clear hwwi
  have b3i := bto b39 hbwi
  refine (missing_two w2.heap.size _ _ l0 [sIt, sE] false wi (h2.below b3i) (HT5.out.below b3i) st9 (by decide) l0_tags (by decide) l0_sz (by intro e; cases e) l0_miss2).mono ?_
  rintro _ w10 ⟨v10, rfl, hs10, b10⟩
  obtain ⟨A10, c10, rfl, hc10, hp10⟩ := hs10
  have e2 : (if false = true then [sN] else []).length = 0 := rfl
  rw [e2]
  have hbz := bto hbd2 (bto b3i b10)
  clear e2 hc10 hp10 st9 hmp9
  go_wp2_with fail
  go_ret
  exact ⟨rfl, hbz⟩
end Go.Proofs.Ytjniicmhndflpaa
