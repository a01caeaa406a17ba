/-
  The example of the law's package, walked.
-/
import Derived.Test.YtoodmhlefaepaaaGreatRulP
namespace Go.Proofs.YtoodmhlefaepaaaGreat
open Go.RowKit Go.Proofs.PlLex Go.Proofs.PlNet Go.Proofs.PlRule

def tA : BA := ⟨#[109, 117, 115, 116, 32, 105, 110, 32, 97, 49, 32, 119, 97, 121, 32, 35, 32, 99, 10, 32, 119, 104, 101, 114, 101, 32, 115, 117, 114, 102, 97, 99, 101, 61, 34, 112, 97, 118, 101, 100, 34, 32, 110, 101, 101, 100, 115, 32, 110, 97, 109, 101, 32, 59]⟩
def tB : BA := ⟨#[97, 110, 121, 32, 104, 97, 115, 32, 111, 112, 101, 110, 32, 111, 102, 32, 34, 121, 101, 115, 34, 44, 32, 34, 110, 111, 34, 59, 32, 110, 111, 100, 101, 32, 110, 111, 32, 102, 111, 111, 116, 59]⟩
def tC : BA := ⟨#[110, 111, 100, 101, 32, 110, 101, 101, 100, 115, 59]⟩
def tD : BA := ⟨#[110, 111, 100, 101, 32, 110, 101, 101, 100, 115, 32, 110, 97, 109, 101]⟩
def tE : BA := ⟨#[97, 110, 121, 32, 104, 97, 115, 32, 111, 112, 101, 110, 32, 111, 102, 32, 34, 34, 59]⟩
def tX : BA := ⟨#[109, 117, 115, 116, 32, 105, 110, 32, 97, 49, 32, 119, 97, 121, 32, 119, 104, 101, 114, 101, 32, 115, 117, 114, 102, 97, 99, 101, 32, 61, 32, 34, 112, 97, 118, 101, 100, 34, 32, 110, 101, 101, 100, 115, 32, 110, 97, 109, 101, 59, 10]⟩
def rOne : Rl := ⟨true, ⟨#[97, 49]⟩, 2, ⟨#[115, 117, 114, 102, 97, 99, 101]⟩, ⟨#[112, 97, 118, 101, 100]⟩, 1, ⟨#[110, 97, 109, 101]⟩, []⟩
theorem pA : parseL (tx tA) = ([rOne], 0, 0) := by decide +kernel
theorem pB : parseL (tx tB) = (rAB, 0, 0) := by decide +kernel
theorem pC : parseL (tx tC) = ([], 5, 10) := by decide +kernel
theorem pD : parseL (tx tD) = ([], 6, 15) := by decide +kernel
theorem pE : parseL (tx tE) = ([], 10, 16) := by decide +kernel
theorem qA : textL [rOne] = (tX, 0) := by decide +kernel
def oA : Ob := ⟨⟨#[110, 49]⟩, 1, 0, 0, [], [⟨⟨#[102, 111, 111, 116]⟩, ⟨#[110, 111]⟩⟩]⟩
def oB : Ob := ⟨⟨#[110, 50]⟩, 1, 0, 0, [], [⟨⟨#[111, 112, 101, 110]⟩, ⟨#[109, 97, 121, 98, 101]⟩⟩]⟩
def exOb : List Ob := [oA, oB]
theorem ex_map : mapB exOb = true := by decide +kernel
theorem ex_find : findK exOb 2 = [(0, ⟨#[110, 50]⟩), (1, ⟨#[110, 49]⟩)] := by decide +kernel
theorem ex_ok : ∀ o ∈ exOb, okO o := by
  intro o ho
  rcases List.mem_cons.1 ho with rfl | ho
  · exact ⟨by decide, by decide, (fun s hs => nomatch (show s ∈ ([] : List ByteArray) from hs)), by decide, fun t ht => by
      rw [show oA.tags = [⟨⟨#[102, 111, 111, 116]⟩, ⟨#[110, 111]⟩⟩] from rfl, List.mem_singleton] at ht
      subst ht
      exact ⟨by decide, by decide⟩⟩
  · rw [List.mem_singleton] at ho
    subst ho
    exact ⟨by decide, by decide, (fun s hs => nomatch (show s ∈ ([] : List ByteArray) from hs)), by decide, fun t ht => by
      rw [show oB.tags = [⟨⟨#[111, 112, 101, 110]⟩, ⟨#[109, 97, 121, 98, 101]⟩⟩] from rfl, List.mem_singleton] at ht
      subst ht
      exact ⟨by decide, by decide⟩⟩
theorem ex_kind : ∀ o ∈ exOb, o.kind = 1 := by
  intro o ho
  rcases List.mem_cons.1 ho with rfl | ho
  · rfl
  · rw [List.mem_singleton] at ho
    subst ho
    rfl
theorem tg_one {W : World} {g : Nat} {a c : ByteArray} (h : W.heap[g]? = some (.cells #[.string a, .string c] 34 (0, 0))) : TgS W (.slice (some ⟨g, 0, none⟩) 1 1) [⟨a, c⟩] := by
  refine ⟨_, _, rfl, .inr ⟨g, 0, rfl, lt_of_blk h, fun i t hi => ?_⟩⟩
  cases i with
  | zero =>
    simp only [List.getElem?_cons_zero, Option.some.injEq] at hi
    subst hi
    exact ⟨cell_of_row W g 0 _ _ _ h, cell_of_row W g 1 _ _ _ h⟩
  | succ i => simp at hi
set_option maxRecDepth 100000 in
set_option maxHeartbeats 8000000 in
theorem head_any (w : World) : Calls Tryz.prog 4 #[] w fun e w' => e = .returned (.bool true) ∧ Below w.heap.size w w' := by
  obtain ⟨w0, hw0⟩ : ∃ w0, w.alloc (.cells #[.bool true, .string ⟨#[97, 49]⟩, .int .i64 2, .string ⟨#[115, 117, 114, 102, 97, 99, 101]⟩, .string ⟨#[112, 97, 118, 101, 100]⟩, .int .i64 1, .string ⟨#[110, 97, 109, 101]⟩, .slice none 0 0] 37) = w0 := ⟨_, rfl⟩
  have hb0 : Below w.heap.size w w0 := by rw [← hw0]; exact (Below.refl _ _).alloc (Nat.le_refl _) _
  have hn0 : w0.heap[w.heap.size]? = some (.cells #[.bool true, .string ⟨#[97, 49]⟩, .int .i64 2, .string ⟨#[115, 117, 114, 102, 97, 99, 101]⟩, .string ⟨#[112, 97, 118, 101, 100]⟩, .int .i64 1, .string ⟨#[110, 97, 109, 101]⟩, .slice none 0 0] 37 (0, 0)) := by rw [← hw0]; exact heap_alloc_new _ _
  have ho0 : RlS w0 (.slice (some ⟨w.heap.size, 0, none⟩) 1 1) [rOne] := by
    obtain ⟨c0, c1, c2, c3, c4, c5, c6, c7⟩ := blk8 hn0
    refine ⟨_, _, rfl, Nat.le_refl _, .inr ⟨w.heap.size, 0, rfl, lt_of_blk hn0, fun i x hi => ?_⟩⟩
    cases i with
    | zero =>
      simp only [List.getElem?_cons_zero, Option.some.injEq] at hi
      subst hi
      exact ⟨.slice none 0 0, c0, c1, c2, c3, c4, c5, c6, c7, none, 0, rfl, Nat.le_refl _, .inl rfl⟩
    | succ i => simp at hi
  obtain ⟨bo, hbo⟩ : ∃ bo, w.heap.size = bo := ⟨_, rfl⟩
  rw [hbo] at ho0
  have HB0 := hide hb0
  have HO0 := hide ho0
  clear hb0 hn0 ho0
  go_enter Tryz.func4, Tryz.ntmps4
  go_wp2_with fail
  refine (parse_any tA w0 (by decide)).mono ?_
  rintro _ w1 ⟨va, rfl, ha, b1⟩
  rw [pA] at ha ⊢
  obtain ⟨Aa, ca, rfl, _, _⟩ := id ha
  have HB1 := hide (bto HB0.out b1)
  have HO1 := hide (HO0.out.below b1)
  have HA1 := hide ha
  clear ha b1 hw0
  go_wp2_with fail
  refine (text_any [rOne] _ w1 HO1.out (by decide) (by
    intro s hs
    rw [List.mem_singleton] at hs
    subst hs
    exact ⟨by decide, by decide, by decide, by decide, by decide, by decide⟩)).mono ?_
  rintro _ w2 ⟨rfl, b2⟩
  rw [qA]
  unfold tX
  have HB2 := hide (bto HB1.out b2)
  have HO2 := hide (HO1.out.below b2)
  have HA2 := hide (HA1.out.below b2)
  clear b2
  go_wp2_with fail
  refine (parse_any tB w2 (by decide)).mono ?_
  rintro _ w3 ⟨vb, rfl, hb, b3⟩
  rw [pB] at hb ⊢
  obtain ⟨Ab, cb, rfl, _, _⟩ := id hb
  rw [show rAB.length = 2 from rfl] at hb ⊢
  have HB3 := hide (bto HB2.out b3)
  have HO3 := hide (HO2.out.below b3)
  have HA3 := hide (HA2.out.below b3)
  have HR3 := hide hb
  clear hb b3
  go_wp2_with fail
  refine (parse_any tC w3 (by decide)).mono ?_
  rintro _ w4 ⟨vc, rfl, hc, b4⟩
  rw [pC] at hc ⊢
  obtain ⟨Ac, cc, rfl, _, _⟩ := id hc
  have HB4 := hide (bto HB3.out b4)
  have HO4 := hide (HO3.out.below b4)
  have HA4 := hide (HA3.out.below b4)
  have HR4 := hide (HR3.out.below b4)
  clear hc b4
  go_wp2_with fail
  refine (parse_any tD w4 (by decide)).mono ?_
  rintro _ w5 ⟨vd, rfl, hc, b5⟩
  rw [pD] at hc ⊢
  obtain ⟨Ad, cd, rfl, _, _⟩ := id hc
  have HB5 := hide (bto HB4.out b5)
  have HO5 := hide (HO4.out.below b5)
  have HA5 := hide (HA4.out.below b5)
  have HR5 := hide (HR4.out.below b5)
  clear hc b5
  go_wp2_with fail
  refine (parse_any tE w5 (by decide)).mono ?_
  rintro _ w6 ⟨ve, rfl, hc, b6⟩
  rw [pE] at hc ⊢
  obtain ⟨Ae, ce, rfl, _, _⟩ := id hc
  have HB6 := hide (bto HB5.out b6)
  have HO6 := hide (HO5.out.below b6)
  have HA6 := hide (HA5.out.below b6)
  have HR6 := hide (HR5.out.below b6)
  clear hc b6
  go_wp2_with fail
  obtain ⟨u1, hu1⟩ : ∃ u, w6.alloc (.cells #[.string ⟨#[102, 111, 111, 116]⟩, .string ⟨#[110, 111]⟩] 34) = u := ⟨_, rfl⟩
  have z1 : w6.heap.size + 1 = u1.heap.size := by rw [← hu1]; simp
  have n1 : u1.heap[w6.heap.size]? = some (.cells #[.string ⟨#[102, 111, 111, 116]⟩, .string ⟨#[110, 111]⟩] 34 (0, 0)) := by rw [← hu1]; exact heap_alloc_new _ _
  have g1 : Below w6.heap.size w6 u1 := by rw [← hu1]; exact (Below.refl _ _).alloc (Nat.le_refl _) _
  rw [hu1, z1]
  clear hu1
  obtain ⟨u2, hu2⟩ : ∃ u, u1.alloc (.cells #[.string ⟨#[111, 112, 101, 110]⟩, .string ⟨#[109, 97, 121, 98, 101]⟩] 34) = u := ⟨_, rfl⟩
  have z2 : u1.heap.size + 1 = u2.heap.size := by rw [← hu2]; simp
  have n2 : u2.heap[u1.heap.size]? = some (.cells #[.string ⟨#[111, 112, 101, 110]⟩, .string ⟨#[109, 97, 121, 98, 101]⟩] 34 (0, 0)) := by rw [← hu2]; exact heap_alloc_new _ _
  have g2 : Below u1.heap.size u1 u2 := by rw [← hu2]; exact (Below.refl _ _).alloc (Nat.le_refl _) _
  rw [hu2, z2]
  clear hu2
  obtain ⟨u3, hu3⟩ : ∃ u, u2.alloc (.cells #[.string ⟨#[110, 49]⟩, .int .i64 1, .int .i64 0, .int .i64 0, .slice none 0 0, .slice (some ⟨w6.heap.size, 0, none⟩) 1 1, .string ⟨#[110, 50]⟩, .int .i64 1, .int .i64 0, .int .i64 0, .slice none 0 0, .slice (some ⟨u1.heap.size, 0, none⟩) 1 1] 42) = u := ⟨_, rfl⟩
  have z3 : u2.heap.size + 1 = u3.heap.size := by rw [← hu3]; simp
  have n3 : u3.heap[u2.heap.size]? = some (.cells #[.string ⟨#[110, 49]⟩, .int .i64 1, .int .i64 0, .int .i64 0, .slice none 0 0, .slice (some ⟨w6.heap.size, 0, none⟩) 1 1, .string ⟨#[110, 50]⟩, .int .i64 1, .int .i64 0, .int .i64 0, .slice none 0 0, .slice (some ⟨u1.heap.size, 0, none⟩) 1 1] 42 (0, 0)) := by rw [← hu3]; exact heap_alloc_new _ _
  have g3 : Below u2.heap.size u2 u3 := by rw [← hu3]; exact (Below.refl _ _).alloc (Nat.le_refl _) _
  rw [hu3]
  clear hu3
  have hob : ObsS u3 (.slice (some ⟨u2.heap.size, 0, none⟩) 2 2) exOb := by
    have t1 := blkB g3 (blkB g2 n1)
    have t2 := blkB g3 n2
    have cc := fun j => cell_of_row u3 u2.heap.size j _ _ _ n3
    refine ⟨_, _, rfl, Nat.le_refl _, .inr ⟨u2.heap.size, 0, rfl, lt_of_blk n3, fun i o hi => ?_⟩⟩
    cases i with
    | zero =>
      simp only [exOb, List.getElem?_cons_zero, Option.some.injEq] at hi
      subst hi
      exact ⟨.slice none 0 0, .slice (some ⟨w6.heap.size, 0, none⟩) 1 1, cc 0, cc 1, cc 2, cc 3, cc 4, cc 5, ⟨none, 0, rfl, Nat.le_refl _, .inl rfl⟩, tg_one t1⟩
    | succ i =>
      cases i with
      | zero =>
        simp only [exOb, List.getElem?_cons_succ, List.getElem?_cons_zero, Option.some.injEq] at hi
        subst hi
        exact ⟨.slice none 0 0, .slice (some ⟨u1.heap.size, 0, none⟩) 1 1, cc 6, cc 7, cc 8, cc 9, cc 10, cc 11, ⟨none, 0, rfl, Nat.le_refl _, .inl rfl⟩, tg_one t2⟩
      | succ i => simp [exOb] at hi
  have HG3 := hide (bto (bto (bto HB6.out g1) g2) g3)
  have HA7 := hide (((HA6.out.below g1).below g2).below g3)
  have HO7 := hide (((HO6.out.below g1).below g2).below g3)
  have HR7 := hide (((HR6.out.below g1).below g2).below g3)
  obtain ⟨bq, hbq⟩ : ∃ bq, u2.heap.size = bq := ⟨_, rfl⟩
  rw [hbq] at hob z3 ⊢
  have HOB := hide hob
  rw [z3]
  clear z1 z2 z3 n1 n2 n3 g1 g2 g3 hob hbq HA6 HO6 HR6
  obtain ⟨u4, hu4⟩ : ∃ u, u3.alloc (.cells #[.slice (some ⟨bq, 0, none⟩) 2 2] 45) = u := ⟨_, rfl⟩
  have n4 : u4.heap[u3.heap.size]? = some (.cells #[.slice (some ⟨bq, 0, none⟩) 2 2] 45 (0, 0)) := by rw [← hu4]; exact heap_alloc_new _ _
  have g4 : Below u3.heap.size u3 u4 := by rw [← hu4]; exact (Below.refl _ _).alloc (Nat.le_refl _) _
  rw [hu4]
  clear hu4
  have HG4 := hide (bto HG3.out g4)
  have HA8 := hide (HA7.out.below g4)
  have HO8 := hide (HO7.out.below g4)
  have HR8 := hide (HR7.out.below g4)
  have HOB4 := hide (HOB.out.below g4)
  have HN4 := hide n4
  obtain ⟨bp, hbp⟩ : ∃ bp, u3.heap.size = bp := ⟨_, rfl⟩
  rw [hbp] at HN4 ⊢
  clear n4 g4 hbp HG3 HA7 HO7 HR7 HOB
  refine (findings_any exOb ex_kind (by decide) ex_ok ex_map _ _ u4 HOB4.out HR8.out).mono ?_
  rintro _ w7 ⟨vf, rfl, hf, b7⟩
  rw [ex_find] at hf
  obtain ⟨Af, cf, rfl, _⟩ := id hf
  have HF7 := hide hf
  have HB7 := hide (bto HG4.out b7)
  have HA9 := hide (HA8.out.below b7)
  have HO9 := hide (HO8.out.below b7)
  have HR9 := hide (HR8.out.below b7)
  have HOB7 := hide (HOB4.out.below b7)
  have HN7 := hide (blkB b7 HN4.out)
  clear hf b7 HA8 HO8 HR8 HOB4 HN4
  go_wp2_with fail
  obtain ⟨u8, hu8⟩ : ∃ u, w7.alloc (.cells #[.int .i64 0, .string ⟨#[110, 50]⟩, .int .i64 1, .string ⟨#[110, 49]⟩] 50) = u := ⟨_, rfl⟩
  have n8 : u8.heap[w7.heap.size]? = some (.cells #[.int .i64 0, .string ⟨#[110, 50]⟩, .int .i64 1, .string ⟨#[110, 49]⟩] 50 (0, 0)) := by rw [← hu8]; exact heap_alloc_new _ _
  have g8 : Below w7.heap.size w7 u8 := by rw [← hu8]; exact (Below.refl _ _).alloc (Nat.le_refl _) _
  rw [hu8]
  have hf8 : FnS u8 (.slice (some ⟨w7.heap.size, 0, none⟩) 2 2) [(0, ⟨#[110, 50]⟩), (1, ⟨#[110, 49]⟩)] := by
    have cc := fun j => cell_of_row u8 w7.heap.size j _ _ _ n8
    refine ⟨_, _, rfl, .inr ⟨w7.heap.size, rfl, lt_of_blk n8, fun i o hi => ?_⟩⟩
    cases i with
    | zero =>
      simp only [List.getElem?_cons_zero, Option.some.injEq] at hi
      subst hi
      exact ⟨cc 0, cc 1⟩
    | succ i =>
      cases i with
      | zero =>
        simp only [List.getElem?_cons_succ, List.getElem?_cons_zero, Option.some.injEq] at hi
        subst hi
        exact ⟨cc 2, cc 3⟩
      | succ i => simp at hi
  have HB8 := hide (bto HB7.out g8)
  have HAx := hide (HA9.out.below g8)
  have HOx := hide (HO9.out.below g8)
  have HRx := hide (HR9.out.below g8)
  have HOB8 := hide (HOB7.out.below g8)
  have HN8 := hide (blkB g8 HN7.out)
  refine (found_any _ (by decide) _ _ u8 (HF7.out.below g8) hf8).mono ?_
  rintro _ w9 ⟨rfl, b9⟩
  have HB9 := hide (bto HB8.out b9)
  have HAy := hide (HAx.out.below b9)
  have HOy := hide (HOx.out.below b9)
  have HRy := hide (HRx.out.below b9)
  have HOB9 := hide (HOB8.out.below b9)
  have HN9 := hide (blkB b9 HN8.out)
  clear n8 g8 hf8 b9 hu8 HA9 HO9 HR9 HOB7 HN7 HF7 HAx HOx HRx HOB8 HN8
  have HQ := hide (rSame_any [rOne] [rOne] _ _ w9 HAy.out HOy.out (by decide) (by
    intro s hs
    rw [List.mem_singleton] at hs
    subst hs
    decide))
  rw [decide_eq_true rfl] at HQ
  go_wp2_with fail
  refine HQ.out.mono ?_
  rintro _ wa ⟨rfl, ba⟩
  have HBa := hide (bto HB9.out ba)
  have HRz := hide (HRy.out.below ba)
  have HOBz := hide (HOB9.out.below ba)
  have m9 := cell_of_row wa bp 0 _ _ _ (blkB ba HN9.out)
  simp only [List.getElem?_toArray, List.getElem?_cons_zero] at m9
  clear ba
  go_wp2_with fail
  refine (pcheck_any exOb ex_kind (by decide) ex_ok ex_map _ _ wa HOBz.out HRz.out).mono ?_
  rintro _ wb ⟨rfl, bb⟩
  have HBb := hide (bto HBa.out bb)
  clear bb
  go_wp2_with fail
  go_ret
  exact ⟨rfl, HBb.out⟩
end Go.Proofs.YtoodmhlefaepaaaGreat
