/-
  The closure of rule.broken, at the two rules of the law's example; tag.Get.
-/
import Derived.Test.YtoodmhlefaepaaaGreatRulM
import Derived.Test.YtoodmhlefaepaaaGreatShelf
namespace Go.Proofs.YtoodmhlefaepaaaGreat
open Go.RowKit Go.Proofs.PlLex Go.Proofs.PlNet Go.Proofs.PlRule

/-- The value of a key. -/
def getT (key : ByteArray) : List Tg → Option ByteArray
  | [] => none
  | t :: l => if t.k.toList == key.toList then some t.v else getT key l
def getV : Option ByteArray → Value
  | none => .tuple #[.string ⟨#[]⟩, .bool false]
  | some v => .tuple #[.string v, .bool true]
set_option maxRecDepth 100000 in
set_option maxHeartbeats 4000000 in
theorem get_any (l : List Tg) (key : ByteArray) (v : Value) (w : World) (hv : TgS w v l) (hl : l.length ≤ 100000) :
    Calls Tryz.prog 62 #[v, .string key] w fun e w' => e = .returned (getV (getT key l)) ∧ Below w.heap.size w w' := by
  obtain ⟨R, hR⟩ : ∃ R, getT key l = R := ⟨_, rfl⟩
  rw [hR]
  have HR := hide hR
  clear hR
  obtain ⟨A, c, rfl, hA⟩ := hv
  have HA := hide hA
  clear hA
  go_enter Tryz.func62, Tryz.ntmps62
  go_wp2_with fail
  go_loopw [10] (fun i wr => ∃ k : Nat, k ≤ l.length ∧ i = .int .i64 k ∧ Hid (Below w.heap.size w wr) ∧ Hid (getT key (l.drop k) = R)) (fun i _ => l.length - (intOf i).toNat)
  case atStart => exact ⟨0, Nat.zero_le _, rfl, Below.refl _ _, HR⟩
  case round =>
    obtain ⟨k, hk, rfl, hb, hr⟩ := hrel
    by_cases hlt : k < l.length
    · obtain ⟨g, o, rfl, hg, hp⟩ := HA.out.resolve_left (by rintro rfl; simp at hlt)
      obtain ⟨c1, c2⟩ := (hp.below hg hb.out) k _ (List.getElem?_eq_getElem hlt)
      have hr2 := hr.out
      rw [drop_tg l k hlt, getT] at hr2
      generalize l[k] = t at *
      obtain ⟨tk, tv⟩ := t
      simp only at c1 c2 hr2
      have k0 : (0 : Int) ≤ k := by omega
      have k1 : (k : Int) < l.length := by omega
      have HL := hide hlt
      have HM := hide (show l.length - (k + 1) < l.length - k from by omega)
      have hb9 := hb.out.alloc hb.out.size (.cells #[.string tk, .string tv] 34)
      have HB9 := hide hb9
      clear hr hlt hp hb9
      cases hq : (tk.toList == key.toList) with
      | true =>
        rw [hq, if_pos rfl] at hr2
        have HR2 := hide hr2
        have hb3 : tk.toList = key.toList := by simpa using hq
        clear hr2
        go_wp2_with fail
        go_ret2
        exact ⟨by rw [← HR2.out]; rfl, HB9.out⟩
      | false =>
        rw [hq, if_neg (by decide)] at hr2
        have HR2 := hide hr2
        have hb3 : ¬ tk.toList = key.toList := by simpa using hq
        clear hr2
        go_wp2_with fail
        refine ⟨⟨k + 1, HL.out, by go_num, HB9, HR2⟩, ?_⟩
        have := HM.out
        simp [intOf]; omega
    · have hz : R = none := by rw [← hr.out, List.drop_eq_nil_of_le (by omega)]; rfl
      have HZ := hide hz
      have HB9 := hide hb.out
      clear hr hz hb
      go_wp2_with fail
      go_ret2
      exact ⟨by rw [HZ.out]; rfl, HB9.out⟩
theorem contains_any (L : List ByteArray) (s : ByteArray) (v : Value) (w : World) (hv : StS w v L) (hl : L.length ≤ 100000) :
    Calls Tryz.prog 63 #[v, .string s] w fun e w' => e = .returned (.bool (Go.Lib.containsS L s)) ∧ w' = w := by
  obtain ⟨A, c, rfl, _, h⟩ := hv
  by_cases h0 : L = []
  · subst h0
    exact (Tryz.slices_Contains_string_empty A c s w).mono (fun e w' h => ⟨h.1, h.2⟩)
  · obtain ⟨g, o, rfl, _, hp⟩ := h.resolve_left h0
    refine (Tryz.slices_Contains_string g o L.length c L s w (Nat.le_refl _) (by omega) (fun j hj => ?_)).mono (fun e w' h => ⟨by rw [h.1, List.take_length], h.2⟩)
    rw [hp j _ (List.getElem?_eq_getElem hj), List.getD_eq_getElem?_getD, List.getElem?_eq_getElem hj]
    rfl
theorem getV_is (r : Option ByteArray) : ∃ s q, getV r = .tuple #[.string s, .bool q] := by
  cases r with
  | none => exact ⟨_, _, rfl⟩
  | some v => exact ⟨_, _, rfl⟩
def bOpen : BA := ⟨#[111, 112, 101, 110]⟩
def bYes : BA := ⟨#[121, 101, 115]⟩
def bNo : BA := ⟨#[110, 111]⟩
def bFoot : BA := ⟨#[102, 111, 111, 116]⟩
/-- The two rules of the example. -/
def rA : Rl := ⟨false, ⟨#[]⟩, 0, ⟨#[]⟩, ⟨#[]⟩, 2, bOpen, [bYes, bNo]⟩
def rB : Rl := ⟨false, ⟨#[]⟩, 1, ⟨#[]⟩, ⟨#[]⟩, 3, bFoot, []⟩
/-- Does an object break a rule (of these two)? -/
def brk (x : Rl) (o : Ob) : Bool :=
  if x.op = 3 then (getT x.key o.tags).isSome
  else match getT x.key o.tags with
    | none => false
    | some v => !Go.Lib.containsS x.vals v
theorem RlB.c' {x : Rl} {vv : Value} {b : Nat} {W : World} (h : RlB x vv b W) : W.cell? ⟨b, 0, none⟩ = some (.bool x.strict) ∧ W.cell? ⟨b, 1, none⟩ = some (.string x.area) ∧ W.cell? ⟨b, 2, none⟩ = some (.int .i64 x.kind) ∧ W.cell? ⟨b, 3, none⟩ = some (.string x.ik) ∧ W.cell? ⟨b, 4, none⟩ = some (.string x.iv) ∧ W.cell? ⟨b, 5, none⟩ = some (.int .i64 x.op) ∧ W.cell? ⟨b, 6, none⟩ = some (.string x.key) ∧ W.cell? ⟨b, 7, none⟩ = some vv := blk8 h.blk
def vOb (o : Ob) (rv tv : Value) : Value := .agg #[.string o.id, .int .i64 o.kind, .int .i64 o.x, .int .i64 o.y, rv, tv]
set_option maxRecDepth 100000 in
set_option maxHeartbeats 4000000 in
theorem brkA (o : Ob) (A : Option Addr) (n c : Nat) (tv vv : Value) (bx bm : Nat) (w : World) (hx : RlB rA vv bx w) (ht : TgS w tv o.tags) (hv : StS w vv rA.vals) (hl : o.tags.length ≤ 100000) :
    Calls Tryz.prog 61 #[vOb o (.slice A n c) tv, .pointer (some ⟨bx, 0, none⟩), .pointer (some ⟨bm, 0, none⟩)] w fun e w' => e = .returned (.bool (brk rA o)) ∧ Below w.heap.size w w' := by
  obtain ⟨R, hR⟩ : ∃ R, brk rA o = R := ⟨_, rfl⟩
  rw [hR]
  obtain ⟨wo, hwo⟩ : ∃ wo, w.alloc (.cells #[.string o.id, .int .i64 o.kind, .int .i64 o.x, .int .i64 o.y, .slice A n c, tv] 42) = wo := ⟨_, rfl⟩
  have hb0 : Below w.heap.size w wo := by rw [← hwo]; exact (Below.refl _ _).alloc (Nat.le_refl _) _
  have ho : wo.heap[w.heap.size]? = some (.cells #[.string o.id, .int .i64 o.kind, .int .i64 o.x, .int .i64 o.y, .slice A n c, tv] 42 (0, 0)) := by rw [← hwo]; exact heap_alloc_new _ _
  have hx0 : RlB rA vv bx wo := ⟨blkB hb0 hx.blk⟩
  have ht0 := ht.below hb0
  have hv0 := hv.below hb0
  have HG := hide (fun key W (b : Below wo.heap.size wo W) => get_any o.tags key tv W (ht0.below b) hl)
  have HC := hide (fun s W (b : Below wo.heap.size wo W) => contains_any rA.vals s vv W (hv0.below b) (by decide))
  have HX := hide hx0
  obtain ⟨B, hB⟩ : ∃ B, w.heap.size = B := ⟨_, rfl⟩
  have HB0 := hide hb0
  obtain ⟨At, ct, rfl, _⟩ := ht
  obtain ⟨Av, cv, rfl, _⟩ := hv
  obtain ⟨c0, c1, c2, c3, c4, c5, c6, c7⟩ := hx0.c'
  simp only [rA] at c0 c1 c2 c3 c4 c5 c6 c7
  rw [hB] at ho
  have d1 : wo.cell? ⟨B, 1, none⟩ = some (.int .i64 o.kind) := cell_of_row wo B 1 _ _ _ ho
  have d5 : wo.cell? ⟨B, 5, none⟩ = some (.slice At o.tags.length ct) := cell_of_row wo B 5 _ _ _ ho
  unfold vOb
  have HO := hide ho
  clear hb0 ho hx0 ht0 hv0 hx
  go_enter Tryz.func61, Tryz.ntmps61
  go_wp2_with fail
  refine (HG.out ⟨#[]⟩ wo (Below.refl _ _)).mono ?_
  rintro _ w1 ⟨rfl, b1⟩
  have hB1 : B < wo.heap.size := lt_of_blk HO.out
  have hX1 := blkB b1 HX.out.blk
  have hO1 := blkB b1 HO.out
  have HX1 := hide hX1
  have HO1 := hide hO1
  have HB1 := hide b1
  obtain ⟨s1, q1, h1⟩ := getV_is (getT ⟨#[]⟩ o.tags)
  rw [h1]
  obtain ⟨c0, c1, c2, c3, c4, c5, c6, c7⟩ := blk8 hX1
  simp only [rA] at c0 c1 c2 c3 c4 c5 c6 c7
  have d1 : w1.cell? ⟨B, 1, none⟩ = some (.int .i64 o.kind) := cell_of_row w1 B 1 _ _ _ hO1
  have d5 : w1.cell? ⟨B, 5, none⟩ = some (.slice At o.tags.length ct) := cell_of_row w1 B 5 _ _ _ hO1
  clear h1 hX1 hO1 b1 hwo hB1
  go_wp2_with fail
  refine (HG.out bOpen w1 HB1.out).mono ?_
  rintro _ w2 ⟨rfl, b2⟩
  obtain ⟨c0, c1, c2, c3, c4, c5, c6, c7⟩ := blk8 (blkB b2 HX1.out)
  simp only [rA] at c0 c1 c2 c3 c4 c5 c6 c7
  have HB2 := hide (HB1.out.trans (b2.mono HB1.out.size))
  clear b2
  unfold brk at hR
  rw [if_neg (by decide)] at hR
  replace hR : (match getT bOpen o.tags with | none => false | some v => !Go.Lib.containsS rA.vals v) = R := hR
  cases hg : getT bOpen o.tags with
  | none =>
    rw [hg] at hR
    have HR := hide hR
    clear hR hg
    unfold getV
    go_wp2_with fail
    go_ret
    exact ⟨ret_b HR.out, tr_below HB0.out HB2.out⟩
  | some v =>
    rw [hg] at hR
    have HR := hide hR
    clear hR hg
    unfold getV
    go_wp2_with fail
    refine (HC.out v w2 HB2.out).mono ?_
    rintro _ w3 ⟨rfl, rfl⟩
    cases hq : Go.Lib.containsS rA.vals v with
    | true =>
      rw [hq] at HR
      clear hq
      go_wp2_with fail
      go_ret
      exact ⟨ret_b HR.out, tr_below HB0.out HB2.out⟩
    | false =>
      rw [hq] at HR
      clear hq
      go_wp2_with fail
      go_ret
      exact ⟨ret_b HR.out, tr_below HB0.out HB2.out⟩
set_option maxRecDepth 100000 in
set_option maxHeartbeats 4000000 in
theorem brkB (o : Ob) (hk : o.kind = 1) (A : Option Addr) (n c : Nat) (tv vv : Value) (bx bm : Nat) (w : World) (hx : RlB rB vv bx w) (ht : TgS w tv o.tags) (hl : o.tags.length ≤ 100000) :
    Calls Tryz.prog 61 #[vOb o (.slice A n c) tv, .pointer (some ⟨bx, 0, none⟩), .pointer (some ⟨bm, 0, none⟩)] w fun e w' => e = .returned (.bool (brk rB o)) ∧ Below w.heap.size w w' := by
  obtain ⟨R, hR⟩ : ∃ R, brk rB o = R := ⟨_, rfl⟩
  rw [hR]
  obtain ⟨wo, hwo⟩ : ∃ wo, w.alloc (.cells #[.string o.id, .int .i64 1, .int .i64 o.x, .int .i64 o.y, .slice A n c, tv] 42) = wo := ⟨_, rfl⟩
  have hb0 : Below w.heap.size w wo := by rw [← hwo]; exact (Below.refl _ _).alloc (Nat.le_refl _) _
  have ho : wo.heap[w.heap.size]? = some (.cells #[.string o.id, .int .i64 1, .int .i64 o.x, .int .i64 o.y, .slice A n c, tv] 42 (0, 0)) := by rw [← hwo]; exact heap_alloc_new _ _
  have hx0 : RlB rB vv bx wo := ⟨blkB hb0 hx.blk⟩
  have ht0 := ht.below hb0
  have HG := hide (fun key W (b : Below wo.heap.size wo W) => get_any o.tags key tv W (ht0.below b) hl)
  have HX := hide hx0
  obtain ⟨B, hB⟩ : ∃ B, w.heap.size = B := ⟨_, rfl⟩
  have HB0 := hide hb0
  obtain ⟨At, ct, rfl, _⟩ := ht
  obtain ⟨c0, c1, c2, c3, c4, c5, c6, c7⟩ := hx0.c'
  simp only [rB] at c0 c1 c2 c3 c4 c5 c6 c7
  rw [hB] at ho
  have d1 : wo.cell? ⟨B, 1, none⟩ = some (.int .i64 1) := cell_of_row wo B 1 _ _ _ ho
  have d5 : wo.cell? ⟨B, 5, none⟩ = some (.slice At o.tags.length ct) := cell_of_row wo B 5 _ _ _ ho
  unfold vOb
  rw [hk]
  have HO := hide ho
  clear hb0 ho hx0 ht0 hx hk
  go_enter Tryz.func61, Tryz.ntmps61
  go_wp2_with fail
  refine (HG.out ⟨#[]⟩ wo (Below.refl _ _)).mono ?_
  rintro _ w1 ⟨rfl, b1⟩
  have hX1 := blkB b1 HX.out.blk
  have hO1 := blkB b1 HO.out
  have HX1 := hide hX1
  have HB1 := hide b1
  obtain ⟨s1, q1, h1⟩ := getV_is (getT ⟨#[]⟩ o.tags)
  rw [h1]
  obtain ⟨c0, c1, c2, c3, c4, c5, c6, c7⟩ := blk8 hX1
  simp only [rB] at c0 c1 c2 c3 c4 c5 c6 c7
  have d1 : w1.cell? ⟨B, 1, none⟩ = some (.int .i64 1) := cell_of_row w1 B 1 _ _ _ hO1
  have d5 : w1.cell? ⟨B, 5, none⟩ = some (.slice At o.tags.length ct) := cell_of_row w1 B 5 _ _ _ hO1
  clear h1 hX1 hO1 b1 hwo
  go_wp2_with fail
  refine (HG.out bFoot w1 HB1.out).mono ?_
  rintro _ w2 ⟨rfl, b2⟩
  obtain ⟨c0, c1, c2, c3, c4, c5, c6, c7⟩ := blk8 (blkB b2 HX1.out)
  simp only [rB] at c0 c1 c2 c3 c4 c5 c6 c7
  have HB2 := hide (HB1.out.trans (b2.mono HB1.out.size))
  clear b2
  unfold brk at hR
  rw [if_pos (show rB.op = 3 from rfl)] at hR
  replace hR : (getT bFoot o.tags).isSome = R := hR
  cases hg : getT bFoot o.tags with
  | none =>
    rw [hg] at hR
    have HR := hide hR
    clear hR hg
    unfold getV
    go_wp2_with fail
    go_ret
    exact ⟨ret_b HR.out, tr_below HB0.out HB2.out⟩
  | some v =>
    rw [hg] at hR
    have HR := hide hR
    clear hR hg
    unfold getV
    go_wp2_with fail
    go_ret
    exact ⟨ret_b HR.out, tr_below HB0.out HB2.out⟩
set_option maxRecDepth 100000 in
theorem broken_any (A : Option Addr) (n c : Nat) (x : Rl) (A7 : Option Addr) (n7 c7 : Nat) (w : World) :
    Calls Tryz.prog 33 #[.agg #[.slice A n c], vRl x (.slice A7 n7 c7)] w fun e w' =>
      e = .returned (.func (Fn.func 61) #[] #[.pointer (some ⟨w.heap.size + 1, 0, none⟩), .pointer (some ⟨w.heap.size, 0, none⟩)]) ∧ RlB x (.slice A7 n7 c7) (w.heap.size + 1) w' ∧ Below w.heap.size w w' := by
  have key : RlB x (.slice A7 n7 c7) (w.heap.size + 1) ((w.alloc (.cells #[.slice A n c] 45)).alloc (.cells #[.bool x.strict, .string x.area, .int .i64 x.kind, .string x.ik, .string x.iv, .int .i64 x.op, .string x.key, .slice A7 n7 c7] 37)) := by
    have := heap_alloc_new (w.alloc (.cells #[.slice A n c] 45)) (.cells #[.bool x.strict, .string x.area, .int .i64 x.kind, .string x.ik, .string x.iv, .int .i64 x.op, .string x.key, .slice A7 n7 c7] 37)
    rw [show (w.alloc (.cells #[.slice A n c] 45)).heap.size = w.heap.size + 1 by simp] at this
    exact ⟨this⟩
  have hb : Below w.heap.size w ((w.alloc (.cells #[.slice A n c] 45)).alloc (.cells #[.bool x.strict, .string x.area, .int .i64 x.kind, .string x.ik, .string x.iv, .int .i64 x.op, .string x.key, .slice A7 n7 c7] 37)) := ((Below.refl _ _).alloc (Nat.le_refl _) _).alloc (by simp) _
  have HK := hide key
  have HB := hide hb
  clear key hb
  unfold vRl
  go_enter Tryz.func33, Tryz.ntmps33
  go_wp2_with fail
  go_ret
  exact ⟨rfl, HK.out, HB.out⟩
end Go.Proofs.YtoodmhlefaepaaaGreat
