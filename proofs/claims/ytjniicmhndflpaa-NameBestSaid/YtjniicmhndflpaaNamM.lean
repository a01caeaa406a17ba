/-
  name.Find, at the two objects of the law's example.
-/
import Derived.Test.YtjniicmhndflpaaNamL
import Derived.LoopNIn
import Derived.WalkMore
import Derived.Laws.EntriesVeiled
import Derived.Sort.QuietIn
namespace Go.Proofs.Ytjniicmhndflpaa
open Go.RowKit Go.Proofs.PlLex Go.Proofs.PlName
attribute [local go_sem] Oper.semAt_some

/-! A scope, inside a fence, through which the run goes straight. -/
section
variable {P : Program} {b : Frame} {a : Act} {k : List Item} {cs : List Frame} {w : World} {Q : Exit → Act → World → Prop} {F : Fence} {n : Nat}
theorem stepR_scope {c : Code} : step P (lone (b.atR a (.code (.scope c) :: k)) cs w) = .next (lone (b.atR a (.code c :: .inScope c :: k)) cs w) :=
  step_lone_go (by simp [stepG, stepG.exec, Frame.atR])
theorem stepR_inScope {c : Code} : step P (lone (b.atR a (.inScope c :: k)) cs w) = .next (lone (b.atR a k) cs w) :=
  step_lone_go (by simp [stepG, stepG.exec, Frame.atR])
theorem wpIn_scope_straight {c : Code} (h : c.wpIn F n P (Exit.noGoto Q) a w) : (Code.scope c).wpIn F n P Q a w := by
  intro b k cs hro hb hr
  have h0 : (lone (b.atR a (.code (.scope c) :: k)) cs w).fenced P F := fenced_calm hb hr rfl
  obtain ⟨e, a₁, w₁, hq, harr⟩ := h b (.inScope c :: k) cs hro hb hr
  cases e with
  | normal => exact ⟨.normal, a₁, w₁, hq, .head h0 stepR_scope (StepsIn.trans harr (.one (fenced_calm hb hr rfl) stepR_inScope))⟩
  | exit id =>
    have hx : exitTo id (.inScope c :: k) = exitTo id k := by simp [exitTo]
    exact ⟨.exit id, a₁, w₁, hq, fun k' hk => .head h0 stepR_scope (harr.1 k' (by rw [hx]; exact hk)),
      fun hr' hk => let ⟨k₁, h1, h2⟩ := harr.2 hr' (by rw [hx]; exact hk); ⟨k₁, h1, .head h0 stepR_scope h2⟩⟩
  | goto l => exact hq.elim
  | ret => exact ⟨_, a₁, w₁, hq, .of_steps (.one h0 stepR_scope) harr⟩
  | panic ch => exact ⟨_, a₁, w₁, hq, .of_steps (.one h0 stepR_scope) harr⟩
  | outgrown => exact ⟨_, a₁, w₁, hq, .of_steps (.one h0 stepR_scope) harr⟩
end

def foldS (s : ByteArray) : ByteArray := ⟨(foldL s.data.toList).toArray⟩
def matchB (want : ByteArray) (t : Tg) : Bool := (foldS t.v).toList == want.toList

theorem owns_below {W W' : World} {B size n : Nat} {e : TypeId} {v : Value} {xs : List Value} (h : W.ownsRow B e size v n xs) (hb : Below W.heap.size W W') : W'.ownsRow B e size v n xs := h.kept (grown_below hb) (by cases v.ownBlock <;> simp)
/-- The boxes of Find. -/
structure FiB (w : World) (g : Nat) (want : ByteArray) (bw : Nat) (W : World) : Prop where
  map : W.heap[w.heap.size]? = some (.cells #[.slice (some ⟨g, 0, none⟩) 2 2] 29 (0, 0))
  want : Boxed W bw 9 (.string want)
  below : Below w.heap.size w W
theorem FiB.lift {w : World} {g : Nat} {want : ByteArray} {bw : Nat} {W W' : World} (h : FiB w g want bw W) (hb : Below W.heap.size W W') : FiB w g want bw W' := ⟨blkB hb h.map, box_below h.want hb, bto h.below hb⟩
theorem FiB.set {w : World} {g : Nat} {want : ByteArray} {bw bo : Nat} {W : World} (h : FiB w g want bw W) (v : Value) (h1 : w.heap.size < bo) (h2 : bw ≠ bo) : FiB w g want bw (W.setCell ⟨bo, 0, none⟩ v) :=
  ⟨blk_other h.map (by omega), blk_other h.want h2, h.below.setCell (p := ⟨bo, 0, none⟩) (Nat.le_of_lt h1) _⟩
theorem FiB.mapc {w : World} {g : Nat} {want : ByteArray} {bw : Nat} {W : World} (h : FiB w g want bw W) : W.cell? ⟨w.heap.size, 0, none⟩ = some (.slice (some ⟨g, 0, none⟩) 2 2) := (blk1 h.map).1
theorem fi_want {w w1 : World} {g : Nat} (want : ByteArray) (hm : w1.heap[w.heap.size]? = some (.cells #[.slice (some ⟨g, 0, none⟩) 2 2] 29 (0, 0))) (hb : Below w.heap.size w w1) :
    ∃ wb, w1.alloc (.cells #[.string want] 9) = wb ∧ FiB w g want w1.heap.size wb ∧ wb.heap.size = w1.heap.size + 1 :=
  ⟨_, rfl, ⟨blkB ((Below.refl _ _).alloc (Nat.le_refl _) _) hm, Boxed.new _ _ _, bto hb ((Below.refl _ _).alloc (Nat.le_refl _) _)⟩, by simp⟩
theorem fi_out {w w2 : World} {g bw : Nat} {want : ByteArray} (h : FiB w g want bw w2) :
    ∃ wo, w2.alloc (.cells #[.slice none 0 0] 31) = wo ∧ FiB w g want bw wo ∧ Boxed wo w2.heap.size 31 (.slice none 0 0) ∧ wo.heap.size = w2.heap.size + 1 :=
  ⟨_, rfl, h.lift ((Below.refl _ _).alloc (Nat.le_refl _) _), Boxed.new _ _ _, by simp⟩

def objN (tv : Value) : Array Value := #[.string sN, .int .i64 1, .int .i64 0, .int .i64 0, .slice none 0 0, tv]
theorem FiB.row {w X Y : World} {g : Nat} {want : ByteArray} {bw N : Nat} {row : Option Nat} (hN : w.heap.size ≤ N) (h : FiB w g want bw X) (hg : X.grownBy Y row) (hr : ∀ r, row = some r → N ≤ r ∧ ∃ o : Obj, X.heap[r]? = some o ∧ o.isCells = false) : FiB w g want bw Y :=
  ⟨blk_row h.map hg hr, boxed_kept h.want hg hr, ownFrom_below (β := Unit) (Nat.le_refl _) hN () X Y row h.below hg hr⟩
/-- Between two rounds, nothing found. -/
structure FiI (w : World) (g : Nat) (want : ByteArray) (bw bo bj n0 : Nat) (tv : Value) (pre : List Tv) (W : World) : Prop where
  size : n0 ≤ W.heap.size
  b : FiB w g want bw W
  out : Boxed W bo 31 (.slice none 0 0)
  obj : W.heap[bj]? = some (.cells (objN tv) 46 (0, 0))
  none : (pre.map Tv.t).any (matchB want) = false
theorem fiI_own (w : World) (g : Nat) (want : ByteArray) (bw bo bj n0 : Nat) (tv : Value) (B : Nat) (hB : w.heap.size ≤ B) : OwnFrom B (FiI w g want bw bo bj n0 tv) := by
  rintro pre X Y row h hg hr
  exact ⟨Nat.le_trans h.size hg.size, h.b.row hB hg hr, boxed_kept h.out hg hr, blk_row h.obj hg hr, h.none⟩
structure FiX (w : World) (g : Nat) (want : ByteArray) (bw bo n0 : Nat) (A : Option Addr) (c : Nat) (W : World) : Prop where
  size : n0 ≤ W.heap.size
  b : FiB w g want bw W
  out : Boxed W bo 31 (.slice A 1 c)
  row : W.ownsRow n0 9 1 (.slice A 1 c) 1 (strsV [sN])
def FiE (w : World) (g : Nat) (want : ByteArray) (bw bo n0 : Nat) (cd : Code) (_ : List Tv) (W : World) : Prop := cd = .exit 1 ∧ ∃ A c, FiX w g want bw bo n0 A c W
theorem fiE_own (w : World) (g : Nat) (want : ByteArray) (bw bo n0 : Nat) (cd : Code) (B : Nat) (hB : w.heap.size ≤ B) : OwnFrom B (FiE w g want bw bo n0 cd) := by
  rintro pre X Y row ⟨hc, A, c, h⟩ hg hr
  exact ⟨hc, A, c, Nat.le_trans h.size hg.size, h.b.row hB hg hr, boxed_kept h.out hg hr, owns_kept h.row hg hr⟩

set_option maxRecDepth 100000 in
set_option maxHeartbeats 8000000 in
theorem find_two (g : Nat) (tv : Value) (l : List Tg) (text : ByteArray) (w : World) (h2 : Two g tv w) (ht : TgS w tv l) (hv : tagsB l = true) (hl : l.length ≤ 100000) (hs : ∀ t ∈ l, t.k.size ≤ 100000 ∧ t.v.size ≤ 100000) (htx : text.size ≤ 100000)
    (hm : (namesL l).any (matchB (foldS text)) = true) (hw : (foldS text).toList.isEmpty = false) :
    Calls Try.prog 17 #[.agg #[.slice (some ⟨g, 0, none⟩) 2 2], .string text] w fun e w' => ∃ v', e = .returned v' ∧ StS w' v' [sN] ∧ Below w.heap.size w w' := by
  obtain ⟨wa, hwa⟩ : ∃ wa, w.alloc (.cells #[.slice (some ⟨g, 0, none⟩) 2 2] 29) = wa := ⟨_, rfl⟩
  have ha : Below w.heap.size w wa := by rw [← hwa]; exact (Below.refl _ _).alloc (Nat.le_refl _) _
  have hsa : wa.heap.size = w.heap.size + 1 := by rw [← hwa]; simp
  have hmb : wa.heap[w.heap.size]? = some (.cells #[.slice (some ⟨g, 0, none⟩) 2 2] 29 (0, 0)) := by rw [← hwa]; exact heap_alloc_new w _
  have HAV := hide (fun w' h1 h3 => avalid_two g tv l w' h1 h3 hv hl hs)
  have HT := hide ht
  have HS := hide hs
  have HF := hide (fold_any text wa htx)
  have HM := hide hm
  obtain ⟨A, c, rfl, hA⟩ := ht
  have hwl : ¬ (foldS text).toList = [] := by intro e; rw [e] at hw; cases hw
  have HFT : foldS text = ⟨(foldL text.data.toList).toArray⟩ := rfl
  rw [← HFT] at HF
  clear HFT
  generalize foldS text = want at *
  clear hv hs hm
  have dm := (blk1 hmb).1
  refine (callsIn_wide (n := 20)).1 ?_
  refine callsIn_of_wp_marks Try.func17 rfl trivial ?_ rfl
  simp only [Try.ntmps17, List.size_toArray, List.length_cons, List.length_nil, Nat.reduceAdd, Nat.reduceSub, Array.replicate_succ, Array.replicate_zero, List.push_toArray, List.append_toArray, List.nil_append, List.cons_append]
  have hf : Fence.wide.fn 7 := trivial
  have hf2 : Fence.wide.fn 26 := trivial
  have hf3 : Fence.wide.fn 29 := trivial
  gi_wp2
  refine wpIn_scope_straight ?_
  gi_wp2_with (first
    | (gi_at_call 7; clear hwa; refine (callsIn_wide.2 HF.out).mono ?_; rintro e w1 ⟨rfl, hb1⟩; obtain ⟨wb, hwb, hfb, hsb⟩ := fi_want want (blkB hb1 hmb) (bto ha hb1); have dmb := hfb.mapc; have dwb := hfb.want.cell)
    | (gi_at_call 29; clear hwb; refine (callsIn_wide.2 (HAV.out _ (h2.below hfb.below) (HT.out.below hfb.below))).mono ?_; rintro e w2 ⟨rfl, hb2⟩; have dwb2 := (hfb.lift hb2).want.cell; obtain ⟨wo, hwo, hfo, hob, hso⟩ := fi_out (hfb.lift hb2); have dmo := hfo.mapc))
  clear hwo dmb dwb dwb2 hsa hmb ha
  refine wpIn_label ?_
  obtain ⟨⟨d0, d1, d2, d3, d4, d5⟩, ⟨d6, d7, d8, d9, d10, d11⟩⟩ := (h2.below hfo.below).cells
  gi_wp2
  refine wpIn_loop_rounds 3 ?_
  rw [roundsIn_succ]
  gi_wp2_with (gi_at_call 26; refine (callsIn_wide.2 (names_any _ _ _ _)).mono ?_; rintro e w5 ⟨rfl, rfl⟩)
  have hs2 : w1.heap.size + 1 ≤ w2.heap.size := by have := hb2.size; omega
  have hsw : w.heap.size ≤ w1.heap.size := by
    have := hfb.below.size
    have h9 := cell_lt hfb.mapc
    have h8 := hb1.size
    omega
  obtain ⟨g9, hgl, htg⟩ : ∃ g9, (g9 < w.heap.size ∨ g9 = w2.heap.size + 1 + 1) ∧ (l = [] ∨ ∃ o, A = some ⟨g9, o, none⟩ ∧ TagsO w g9 o l) := by
    rcases hA with h | ⟨g, o, rfl, hg, hp⟩
    · exact ⟨_, .inr rfl, .inl h⟩
    · exact ⟨g, .inl hg, .inr ⟨o, rfl, hp⟩⟩
  obtain ⟨W0, hW0⟩ : ∃ W0, (wo.alloc (.cells #[.string sN, .int .i64 1, .int .i64 0, .int .i64 0, .slice none 0 0, .slice A l.length c] 46)).alloc (.cells #[.slice A l.length c] 25) = W0 := ⟨_, rfl⟩
  have hsz : W0.heap.size = w2.heap.size + 3 := by rw [← hW0]; simp [hso]
  have hq : Below wo.heap.size wo W0 := by rw [← hW0]; exact ((Below.refl _ _).alloc (Nat.le_refl _) _).alloc (by simp) _
  have q1 : FiB w g want w1.heap.size W0 := hfo.lift hq
  have q2 : Boxed W0 w2.heap.size 31 (.slice none 0 0) := box_below hob hq
  have q3 : W0.heap[w2.heap.size + 1]? = some (.cells (objN (.slice A l.length c)) 46 (0, 0)) := by
    rw [← hW0, ← hso]
    exact blkB ((Below.refl _ _).alloc (Nat.le_refl _) _) (heap_alloc_new wo _)
  have q4 : W0.heap[w2.heap.size + 1 + 1]? = some (.cells #[.slice A l.length c] 25 (0, 0)) := by
    rw [← hW0, ← hso]
    have := heap_alloc_new (wo.alloc (.cells #[.string sN, .int .i64 1, .int .i64 0, .int .i64 0, .slice none 0 0, .slice A l.length c] 46)) (.cells #[.slice A l.length c] 25)
    simpa using this
  have hrg : TgR (w2.heap.size + 1 + 1) g9 A c l W0 := ⟨cell_of_row _ _ 0 _ _ _ q4, by
    rcases htg with h | ⟨o, hA, hp⟩
    · exact .inl h
    · by_cases h0 : l = []
      · exact .inl h0
      right
      refine ⟨o, hA, hp.below ?_ q1.below⟩
      exact cell_lt (hp 0 (l[0]'(List.length_pos_iff.2 h0)) (List.getElem?_eq_getElem (List.length_pos_iff.2 h0))).1⟩
  obtain ⟨i0, hi, hz0, hz1, hz2⟩ := info_parts info_str
  have HI := hide hi; have HZ0 := hide hz0; have HZ1 := hide hz1; have HZ2 := hide hz2
  rw [hW0]
  clear hW0 d0 d1 d2 d3 d4 d5 d6 d7 d8 d9 d10 d11 dmo hfo hob q4 hi hz0 hz1 hz2 htg hA
  refine wpIn_rangeFunc_ownH rfl (by omega) (gf := 38) (lb := #[.pointer (some ⟨w2.heap.size + 1 + 1, 0, none⟩)]) rfl trivial (enters_of Try.func38 (by kernel_rfl) rfl)
    (names_stopsV 19 (by omega) (w2.heap.size + 1 + 1) g9 A c l hl HS.out W0 hrg) Kr.trans (fun W l o o' _ h1 h2 _ => Kr.putObj W l o o' h1 h2) (Below.refl _ _) (fun _ => rfl)
    (FiI w g want w1.heap.size w2.heap.size (w2.heap.size + 1) W0.heap.size (.slice A l.length c)) (FiE w g want w1.heap.size w2.heap.size W0.heap.size) (fiI_own w g want _ _ _ _ _ _ (by omega)) (fun cd => fiE_own w g want _ _ _ cd _ (by omega)) ⟨Nat.le_refl _, q1, q2, q3, rfl⟩
    (fun x a' W => ∃ Bx, W0.heap.size ≤ Bx ∧ W.heap[Bx]? = some (.cells #[.string x.t.k, .string x.t.v] 42 (0, 0)) ∧ a' = { tmps := #[.agg #[.slice (some ⟨g, 0, none⟩) 2 2], .string text, .pointer (some ⟨w.heap.size, 0, none⟩), undef, .slice none 0 0, .pointer (some ⟨w1.heap.size, 0, none⟩), .pointer (some ⟨w2.heap.size, 0, none⟩), undef, .pointer (some ⟨w2.heap.size + 1, 0, none⟩), undef, .pointer (some ⟨Bx, 0, none⟩), .string text, .string want, .agg #[.slice (some ⟨g, 0, none⟩) 2 2], .bool true, .bool false, .bool false, .string want, .bool false, .bool false, .pointer (some ⟨w.heap.size, 0, none⟩), .slice (some ⟨g, 0, none⟩) 2 2, .int .i64 2, .int .i64 0, .bool true, .pointer (some ⟨g, 0, none⟩), .agg #[.string sN, .int .i64 1, .int .i64 0, .int .i64 0, .slice none 0 0, .slice A l.length c], .pointer (some ⟨w2.heap.size + 1, 5, none⟩), .slice A l.length c, .func (.func 38) #[] #[.pointer (some ⟨w2.heap.size + 1 + 1, 0, none⟩)], .string (langO x.t), .agg #[.string x.t.k, .string x.t.v], undef, undef, undef, undef, undef, undef, undef, undef, undef, undef, undef, undef], defers := [] })
    (fun x a' _ X Y row hs hg hr => by
      obtain ⟨Bx, e1, e2, e3⟩ := hs
      exact ⟨Bx, e1, blk_row e2 hg hr, e3⟩)
    ?assign ?body ?done ?stop
  case assign =>
    rintro l' pre x W K h hK
    unfold encN
    gi_wp2
    have hbn : Below W.heap.size W (W.alloc (.cells #[.string x.t.k, .string x.t.v] 42)) := (Below.refl _ _).alloc (Nat.le_refl _) _
    exact hK _ _ ((KeepsOthers.alloc _ _).from _) (Kr.below hbn) ⟨by have := h.size; simp; omega, h.b.lift hbn, h.out.alloc _, blkB hbn h.obj, h.none⟩
      ⟨W.heap.size, h.size, heap_alloc_new W _, rfl⟩
  case body =>
    rintro l' pre x a' W hl' ⟨rr, hr⟩ h ⟨Bx, hBx, bX, rfl⟩ hlt
    obtain ⟨⟨x0, x1⟩, _⟩ := blk2 bX
    have dwc := h.b.want.cell
    have HLT := hide h.b.want.lt
    have HFO := hide (fun (W : World) => fold_any x.t.v W x.hv)
    have HFE : (⟨(foldL x.t.v.data.toList).toArray⟩ : ByteArray) = foldS x.t.v := rfl
    rw [HFE] at HFO
    clear HFE
    have hmm : Try.prog.follows .mixedOrders = true := by kernel_rfl
    have HH := hide h
    obtain ⟨q, hq⟩ : ∃ q, matchB want x.t = q := ⟨_, rfl⟩
    have HMQ := hide hq
    unfold matchB at hq
    clear h
    cases q with
    | false =>
      gi_wp2_with fail
      refine wpIn_mono (Q := fun e a2 wz => e = .normal ∧ a2 = { tmps := #[.agg #[.slice (some ⟨g, 0, none⟩) 2 2], .string text, .pointer (some ⟨w.heap.size, 0, none⟩), undef, .slice none 0 0, .pointer (some ⟨w1.heap.size, 0, none⟩), .pointer (some ⟨w2.heap.size, 0, none⟩), undef, .pointer (some ⟨w2.heap.size + 1, 0, none⟩), undef, .pointer (some ⟨Bx, 0, none⟩), .string text, .string want, .agg #[.slice (some ⟨g, 0, none⟩) 2 2], .bool true, .bool false, .bool false, .string want, .bool false, .bool false, .pointer (some ⟨w.heap.size, 0, none⟩), .slice (some ⟨g, 0, none⟩) 2 2, .int .i64 2, .int .i64 0, .bool true, .pointer (some ⟨g, 0, none⟩), .agg #[.string sN, .int .i64 1, .int .i64 0, .int .i64 0, .slice none 0 0, .slice A l.length c], .pointer (some ⟨w2.heap.size + 1, 5, none⟩), .slice A l.length c, .func (.func 38) #[] #[.pointer (some ⟨w2.heap.size + 1 + 1, 0, none⟩)], .string (langO x.t), .agg #[.string x.t.k, .string x.t.v], .pointer (some ⟨Bx, 1, none⟩), .string x.t.v, .string (foldS x.t.v), .string want, .bool false, undef, undef, undef, undef, undef, undef, undef], defers := [] } ∧ Below W.heap.size W wz) ?_ ?_
      · gi_region_with_o (gi_at_call 7; refine (CallsIn.inRound l' (callsIn_wide.2 (HFO.out _))).mono ?_; rintro e w7 ⟨rfl, hb7⟩; have b7 : Below W.heap.size W w7 := ⟨hb7.os, hb7.tape, hb7.output, hb7.size, hb7.block⟩; have dw7 : w7.cell? ⟨w1.heap.size, 0, none⟩ = some (.string want) := (b7.cell (p := ⟨w1.heap.size, 0, none⟩) HLT.out).trans dwc)
        all_goals exact ⟨rfl, rfl, ⟨b7.os, b7.tape, b7.output, b7.size, b7.block⟩⟩
      · rintro _ _ w8 ⟨rfl, rfl, b8⟩
        have HB8 := hide b8
        clear b8
        gi_wp2
        refine ⟨(keepsOthers_b HB8.out).from _, Kr.below HB8.out, Nat.le_trans HH.out.size HB8.out.size, HH.out.b.lift HB8.out, box_below HH.out.out HB8.out, blkB HB8.out HH.out.obj, ?_⟩
        rw [map_snoc pre x.t x.hv, List.any_append, HH.out.none, List.any_cons, HMQ.out]
        rfl
    | true =>
      gi_wp2_with fail
      refine wpIn_mono (Q := fun e a2 wz => e = .normal ∧ a2 = { tmps := #[.agg #[.slice (some ⟨g, 0, none⟩) 2 2], .string text, .pointer (some ⟨w.heap.size, 0, none⟩), undef, .slice none 0 0, .pointer (some ⟨w1.heap.size, 0, none⟩), .pointer (some ⟨w2.heap.size, 0, none⟩), undef, .pointer (some ⟨w2.heap.size + 1, 0, none⟩), undef, .pointer (some ⟨Bx, 0, none⟩), .string text, .string want, .agg #[.slice (some ⟨g, 0, none⟩) 2 2], .bool true, .bool false, .bool false, .string want, .bool false, .bool false, .pointer (some ⟨w.heap.size, 0, none⟩), .slice (some ⟨g, 0, none⟩) 2 2, .int .i64 2, .int .i64 0, .bool true, .pointer (some ⟨g, 0, none⟩), .agg #[.string sN, .int .i64 1, .int .i64 0, .int .i64 0, .slice none 0 0, .slice A l.length c], .pointer (some ⟨w2.heap.size + 1, 5, none⟩), .slice A l.length c, .func (.func 38) #[] #[.pointer (some ⟨w2.heap.size + 1 + 1, 0, none⟩)], .string (langO x.t), .agg #[.string x.t.k, .string x.t.v], .pointer (some ⟨Bx, 1, none⟩), .string x.t.v, .string (foldS x.t.v), .string want, .bool true, undef, undef, undef, undef, undef, undef, undef], defers := [] } ∧ Below W.heap.size W wz) ?_ ?_
      · gi_region_with_o (gi_at_call 7; refine (CallsIn.inRound l' (callsIn_wide.2 (HFO.out _))).mono ?_; rintro e w7 ⟨rfl, hb7⟩; have b7 : Below W.heap.size W w7 := ⟨hb7.os, hb7.tape, hb7.output, hb7.size, hb7.block⟩; have dw7 : w7.cell? ⟨w1.heap.size, 0, none⟩ = some (.string want) := (b7.cell (p := ⟨w1.heap.size, 0, none⟩) HLT.out).trans dwc)
        all_goals exact ⟨rfl, rfl, ⟨b7.os, b7.tape, b7.output, b7.size, b7.block⟩⟩
      · rintro _ _ w8 ⟨rfl, rfl, b8⟩
        have c0 := (box_below HH.out.out b8).cell
        have f0 := (box_below HH.out.out b8).frozen
        have o0 : w8.cell? ⟨w2.heap.size + 1, 0, none⟩ = some (.string sN) := cell_of_row w8 _ 0 _ _ _ (blkB b8 HH.out.obj)
        have HB8 := hide b8
        have hsz8 := Nat.le_trans HH.out.size b8.size
        clear b8
        gi_wp2_with (gi_at_builtin; refine wpListIn_append_own _ rfl (.tmp 37) (.tmp 40) 31 rfl W0.heap.size 9 i0 (.string ⟨#[]⟩) 1 16 Try.underlying31 HI.out HZ0.out HZ1.out HZ2.out rfl (by decide) (.slice none 0 0) 0 [] rfl (World.ownsRow_nil _ _ _ _) ⟨w8.heap.size, 0, none⟩ 1 1 [.string sN] rfl rfl (fun j u hj => newB_cells w8 (.string sN) 9 j u hj) (one_str _) (by decide) (by decide) (by simp; omega) ?_; intro v' w9 hown' hgrow _; obtain ⟨g', cap', rfl⟩ := ownsRow_succ hown'; obtain ⟨hv1, hv2, hr2, hk2, hb2⟩ := (box_below HH.out.out HB8.out).appended (n₀ := w.heap.size) (B := w2.heap.size) (by decide) (World.ownsRow_nil _ _ _ _) (Nat.le_trans HH.out.b.below.size HB8.out.size) (by omega) (own_weaken hown' (by omega)) hgrow; have hc1 : w9.cell? ⟨w2.heap.size, 0, none⟩ = _ := hv1.cell; have hf1 : w9.frozen? ⟨w2.heap.size, 0, none⟩ = false := hv1.frozen)
        have b9 : Below w8.heap.size w8 w9 := ((Below.refl _ _).alloc (Nat.le_refl _) _).grown hgrow (by simp) (fun b hb => by cases hb)
        refine ⟨((keepsOthers_b HB8.out).trans hk2).from _, rfl, some ⟨g', 0, none⟩, cap', ?_, ((HH.out.b.lift HB8.out).lift b9).set _ (by omega) (by omega), hv2, by rw [← hsz]; exact hown'.kept (grownBy_setCell' w9 w2.heap.size (.slice (some ⟨g', 0, none⟩) 1 cap')) (.inr (hv1.not_row (by decide) hown').symm)⟩
        have := b9.size
        simp
        omega
  case done =>
    rintro D xs W hD hS h hK
    exfalso
    have := h.none
    rw [hS, HM.out] at this
    cases this
  case stop =>
    rintro D cd pre W hD hS ⟨rfl, A1, c1, h⟩ hK
    obtain ⟨⟨d0, d1, d2, d3, d4, d5⟩, ⟨d6, d7, d8, d9, d10, d11⟩⟩ := (h2.below h.b.below).cells
    have HH := hide h
    have HK := hide hK
    clear h hK hS
    gi_wp2
    rw [roundsIn_succ]
    gi_wp2_with (gi_at_call 26; refine (callsIn_wide.2 (names_any _ _ _ _)).mono ?_; rintro e w5 ⟨rfl, rfl⟩)
    obtain ⟨W5, hW5⟩ : ∃ W5, (W.alloc (.cells #[.string sO, .int .i64 1, .int .i64 0, .int .i64 0, .slice none 0 0, .slice none 0 0] 46)).alloc (.cells #[.slice none 0 0] 25) = W5 := ⟨_, rfl⟩
    have hq5 : Below W.heap.size W W5 := by rw [← hW5]; exact ((Below.refl _ _).alloc (Nat.le_refl _) _).alloc (by simp) _
    have hs5 : W5.heap.size = W.heap.size + 2 := by rw [← hW5]; simp
    have q5 : W5.heap[W.heap.size + 1]? = some (.cells #[.slice none 0 0] 25 (0, 0)) := by
      rw [← hW5]
      have := heap_alloc_new (W.alloc (.cells #[.string sO, .int .i64 1, .int .i64 0, .int .i64 0, .slice none 0 0, .slice none 0 0] 46)) (.cells #[.slice none 0 0] 25)
      simpa using this
    have hrg5 : TgR (W.heap.size + 1) (W.heap.size + 1) none 0 [] W5 := ⟨cell_of_row _ _ 0 _ _ _ q5, .inl rfl⟩
    have hDl : D < W.heap.size := lt_of_block HK.out
    have hX5 : FiX w g want w1.heap.size w2.heap.size W0.heap.size A1 c1 W5 ∧ W5.heap[D]? = some (.deferred (some [])) :=
      ⟨⟨by have := HH.out.size; omega, HH.out.b.lift hq5, box_below HH.out.out hq5, owns_below HH.out.row hq5⟩, blkB hq5 HK.out⟩
    have hnw : w.heap.size ≤ W5.heap.size := by have := HH.out.size; omega
    rw [hW5]
    clear hW5 d0 d1 d2 d3 d4 d5 d6 d7 d8 d9 d10 d11 q5
    refine wpIn_rangeFunc_ownH rfl (by omega) (gf := 38) (lb := #[.pointer (some ⟨W.heap.size + 1, 0, none⟩)]) rfl trivial (enters_of Try.func38 (by kernel_rfl) rfl)
      (names_stopsV 19 (by omega) (W.heap.size + 1) (W.heap.size + 1) none 0 [] (by decide) (fun t ht => nomatch ht) W5 hrg5) Kr.trans (fun W l o o' _ h1 h2 _ => Kr.putObj W l o o' h1 h2) (Below.refl _ _) (fun _ => rfl)
      (fun _ W' => FiX w g want w1.heap.size w2.heap.size W0.heap.size A1 c1 W' ∧ W'.heap[D]? = some (.deferred (some []))) (fun _ _ _ => False) ?own (fun _ _ _ _ _ h _ _ => h) hX5
      (fun _ _ _ => True) (fun _ _ _ _ _ _ _ _ _ => trivial)
      ?assign2 ?body2 ?done2 ?stop2
    case own =>
      rintro pre X Y row ⟨h, hd⟩ hg hr
      exact ⟨⟨Nat.le_trans h.size hg.size, h.b.row (N := W5.heap.size) hnw hg hr, boxed_kept h.out hg hr, owns_kept h.row hg hr⟩, (hg.block D (lt_of_block hd) (fun e => by have := (hr D e.symm).1; omega)).trans hd⟩
    case assign2 =>
      rintro l' pre x W K h hK
      unfold encN
      gi_wp2
      have hbn : Below W.heap.size W (W.alloc (.cells #[.string x.t.k, .string x.t.v] 42)) := (Below.refl _ _).alloc (Nat.le_refl _) _
      exact hK _ _ ((KeepsOthers.alloc _ _).from _) (Kr.below hbn) ⟨⟨Nat.le_trans h.1.size hbn.size, h.1.b.lift hbn, h.1.out.alloc _, owns_below h.1.row hbn⟩, blkB hbn h.2⟩ trivial
    case body2 =>
      rintro l' pre x a' W _ _ _ _ hlt
      exact absurd hlt (Nat.not_lt_zero _)
    case stop2 =>
      rintro _ _ _ _ _ _ h
      exact h.elim
    case done2 =>
      rintro D2 xs W6 hD2 hS2 ⟨h6, hd6⟩ hK6
      have c6 := h6.out.cell
      have m6 := h6.b.mapc
      have HH6 := hide h6
      have HK6 := hide hK6
      have HD6 := hide hd6
      clear h6 hd6 hK6 hS2
      gi_wp2
      rw [roundsIn_succ]
      gi_wp2
      have hDne : D ≠ D2 := by omega
      have hk7 : (W6.putObj D2 (.deferred none)).heap[D]? = some (.deferred (some [])) := ((grownBy_putObj' W6 D2 (.deferred none)).block D (lt_of_block HD6.out) (fun e => hDne (by cases e; rfl))).trans HD6.out
      rw [Exit.noGoto_ret]
      refine ⟨by simp, .inl ⟨_, _, rfl, run_takeDeferred HK6.out, ?_⟩⟩
      refine ⟨by simp, .inl ⟨_, _, rfl, run_takeDeferred hk7, ?_⟩⟩
      refine ⟨_, results_tmp rfl _ _ _, .slice A1 1 c1, rfl, ?_, (HH6.out.b.below.trans (belowK_b (w := w) (Nat.le_refl _) W6 D2 _ _ (by omega) HK6.out rfl rfl)).trans (belowK_b (w := w) (Nat.le_refl _) (W6.putObj D2 (.deferred none)) D _ _ (by omega) hk7 rfl rfl)⟩
      exact st_of_own (r := [sN]) (ownsRow_putObj (ownsRow_putObj HH6.out.row (.deferred none) HK6.out rfl) (.deferred none) hk7 rfl)
end Go.Proofs.Ytjniicmhndflpaa
