/-
  name.names, walked inside the wide fence: the iterator over the name tags, and what it yields.
-/
import Derived.Test.YtjniicmhndflpaaNamF
import Derived.RangeFuncNested
import Derived.RangeFuncBound
import Derived.RangeFuncCalls
import Derived.RangeFuncLeaves
import Derived.Shelf.Abstract
import Derived.Shelf.RegionOpen
import Derived.OwnWalkIn
import Derived.TacticsInMore
import Derived.LoopNIn
import Derived.LoopIn
import Derived.IntWalk
namespace Go.Proofs.Ytjniicmhndflpaa
open Go.RowKit Go.Proofs.PlLex Go.Proofs.PlName
attribute [local go_sem] Oper.semAt_some

def encN (t : Tg) : Array Value := #[.string ⟨(langR t.k.data.toList).toArray⟩, .agg #[.string t.k, .string t.v]]

theorem cell_lt {W : World} {b i : Nat} {v : Value} (h : W.cell? ⟨b, i, none⟩ = some v) : b < W.heap.size := by
  obtain ⟨_, h1, _⟩ := cells_of_cell h
  exact (Array.getElem?_eq_some_iff.1 h1).1
/-- The tags' header in a box, and the tags. -/
structure TgR (B g : Nat) (A : Option Addr) (c : Nat) (l : List Tg) (W : World) : Prop where
  box : W.cell? ⟨B, 0, none⟩ = some (.slice A l.length c)
  tags : l = [] ∨ ∃ o, A = some ⟨g, o, none⟩ ∧ TagsO W g o l
/-- What a round keeps. -/
def Kr (B g : Nat) (W W' : World) : Prop := W.heap.size ≤ W'.heap.size ∧ ∀ b, (b = B ∨ b = g) → ∀ o, W.heap[b]? = some o → o.isCells = true → W'.heap[b]? = some o
theorem Kr.trans {B g : Nat} {X Y Z : World} (h : Kr B g X Y) (k : Kr B g Y Z) : Kr B g X Z := ⟨Nat.le_trans h.1 k.1, fun b hb o ho hc => k.2 b hb o (h.2 b hb o ho hc) hc⟩
theorem Kr.putObj {B g : Nat} (W : World) (l : Nat) (o o' : Obj) (h1 : W.heap[l]? = some o) (h2 : o.isCells = false) : Kr B g W (W.putObj l o') := by
  have hg := grownBy_putObj' W l o'
  refine ⟨hg.size, fun b _ ob hob hc => ?_⟩
  refine (hg.block b (Array.getElem?_eq_some_iff.1 hob).1 (fun e => ?_)).trans hob
  cases e
  rw [h1] at hob
  cases hob
  rw [h2] at hc
  cases hc
theorem Kr.below {B g : Nat} {W W' : World} (h : Below W.heap.size W W') : Kr B g W W' := ⟨h.size, fun b _ _ hob _ => (h.block b (Array.getElem?_eq_some_iff.1 hob).1).trans hob⟩
theorem Kr.set {B g : Nat} (W : World) (b i : Nat) (v : Value) (h1 : b ≠ B) (h2 : b ≠ g) : Kr B g W (W.setCell ⟨b, i, none⟩ v) :=
  ⟨by simp, fun b' hb' _ hob _ => (Below.heap_setCell W ⟨b, i, none⟩ v b' (by rcases hb' with e | e <;> rw [e] <;> (intro e'; first | exact h1 e'.symm | exact h2 e'.symm))).trans hob⟩
theorem TgR.kept {B g : Nat} {A : Option Addr} {c : Nat} {l : List Tg} {W W' : World} (h : TgR B g A c l W) (k : Kr B g W W') : TgR B g A c l W' := by
  have key : ∀ b i v, (b = B ∨ b = g) → W.cell? ⟨b, i, none⟩ = some v → W'.cell? ⟨b, i, none⟩ = some v := by
    intro b i v hb hv
    obtain ⟨ob, h1, h2⟩ := cells_of_cell hv
    have h3 := k.2 b hb ob h1 h2
    exact (World.cell?_of_block (a := ⟨b, i, none⟩) (h3.trans h1.symm)).trans hv
  refine ⟨key _ _ _ (.inl rfl) h.box, ?_⟩
  rcases h.tags with h | ⟨o, hA, hp⟩
  · exact .inl h
  · exact .inr ⟨o, hA, fun i p hi => ⟨key _ _ _ (.inr rfl) (hp i p hi).1, key _ _ _ (.inr rfl) (hp i p hi).2⟩⟩
theorem grown_below {W W' : World} (h : Below W.heap.size W W') : W.grownBy W' none := ⟨h.os, h.tape, h.output, h.size, fun k hk _ => h.block k hk⟩
theorem names_snoc (l : List Tg) (k : Nat) (h : k < l.length) : (l.take (k + 1)).filter (fun t => langB t.k.data.toList) = (l.take k).filter (fun t => langB t.k.data.toList) ++ (if langB l[k].k.data.toList then [l[k]] else []) := by
  rw [List.take_succ_eq_append_getElem h, List.filter_append]
  congr 1
  simp only [List.filter_cons, List.filter_nil]
theorem names_pre (l : List Tg) (k : Nat) : (l.take k).filter (fun t => langB t.k.data.toList) <+: namesL l := by
  unfold namesL
  exact (List.take_prefix k l).filter _

set_option maxRecDepth 100000 in
set_option maxHeartbeats 4000000 in
theorem names_in (n : Nat) (hn : 1 ≤ n) (y B g : Nat) (A : Option Addr) (c : Nat) (l : List Tg) (hl : l.length ≤ 100000) (hk : ∀ t ∈ l, t.k.size ≤ 100000) (J Jx : List Tg → World → Prop) (W : World) (hJ : AbidesFrom W.heap.size J)
    (hY : ∀ pre x W1, x ∈ l → J pre W1 → pre.length < l.length → YieldAt Fence.wide (n - 1) Try.prog y (encN x) W1 fun e W' =>
      (e = .returned (.bool true) ∧ J (pre ++ [x]) W' ∧ Kr B g W1 W') ∨ (e = .returned (.bool false) ∧ Jx (pre ++ [x]) W'))
    (hI : TgR B g A c l W) (h0 : J [] W) :
    CallsIn Fence.wide n Try.prog 38 #[.func (.yield y) #[] #[], .pointer (some ⟨B, 0, none⟩)] W fun e W' => (∃ v, e = .returned v) ∧
      ((∃ xs, xs = namesL l ∧ J xs W') ∨ (∃ pre, pre <+: namesL l ∧ Jx pre W')) := by
  have HY := hide hY
  have HJ := hide hJ
  have HK := hide hk
  clear hY hJ hk
  have hbox := hI.box
  have hf : Fence.wide.fn 39 := trivial
  refine callsIn_of_wp Try.func38 rfl trivial ?_ rfl
  simp only [Try.ntmps38, List.size_toArray, List.length_cons, List.length_nil, Nat.reduceAdd, Nat.reduceSub, Array.replicate_succ, Array.replicate_zero, List.push_toArray, List.append_toArray, List.nil_append, List.cons_append]
  gi_wp2
  clear hbox
  gi_loopw [9] (fun i wr => ∃ (k : Nat) (pre : List Tg), k ≤ l.length ∧ i = .int .i64 k ∧ Hid (pre = (l.take k).filter (fun t => langB t.k.data.toList)) ∧ Hid (TgR B g A c l wr) ∧ Hid (J pre wr) ∧ W.heap.size ≤ wr.heap.size) (fun i _ => l.length - (intOf i).toNat)
  case atStart => exact ⟨0, [], Nat.zero_le _, rfl, rfl, hI, h0, Nat.le_refl _⟩
  case round =>
    clear hI h0
    obtain ⟨k, pre, hk, rfl, hpre, hrg, hj, hsz⟩ := hrel
    by_cases hlt : k < l.length
    · obtain ⟨o, rfl, hp⟩ := hrg.out.tags.resolve_left (by rintro rfl; simp at hlt)
      obtain ⟨c1, c2⟩ := hp k _ (List.getElem?_eq_getElem hlt)
      have hsn := names_snoc l k hlt
      rw [← hpre.out] at hsn
      have hks := HK.out _ (List.getElem_mem hlt)
      have HMEM := hide (List.getElem_mem hlt)
      have hplen : pre.length < l.length := by
        have h1 : pre.length ≤ (l.take k).length := by rw [hpre.out]; exact List.length_filter_le _ _
        rw [List.length_take] at h1
        omega
      generalize l[k] = t at *
      obtain ⟨tk, tv⟩ := t
      simp only at c1 c2 hsn hks
      have HLG := hide (fun w => language_any tk w hks)
      have k0 : (0 : Int) ≤ k := by omega
      have k1 : (k : Int) < l.length := by omega
      have HL := hide hlt
      have HM := hide (show l.length - (k + 1) < l.length - k from by omega)
      have HSN := hide hsn
      have HPL := hide hplen
      clear hp hlt hsn hplen
      gi_wp2
      obtain ⟨wo, hwo⟩ : ∃ wo, wr.alloc (.cells #[.string tk, .string tv] 42) = wo := ⟨_, rfl⟩
      have hblk : wo.heap[wr.heap.size]? = some (.cells #[.string tk, .string tv] 42 (0, 0)) := by rw [← hwo]; exact heap_alloc_new _ _
      have hbo : Below wr.heap.size wr wo := by rw [← hwo]; exact (Below.refl _ _).alloc (Nat.le_refl _) _
      rw [hwo]
      gi_at_call 39
      refine (callsIn_wide.2 (HLG.out _)).mono ?_
      rintro _ w2 ⟨rfl, b2⟩
      have hb2 := bto hbo b2
      obtain ⟨⟨d1, d2⟩, _⟩ := blk2 (blkB b2 hblk)
      have hj1 : J pre w2 := HJ.out _ wr _ none hj.out (grown_below hb2) (fun r e => by cases e)
      have hrg1 := hrg.out.kept (Kr.below hb2)
      have hs2 := hb2.size
      have HB2 := hide hb2
      have HJ1 := hide hj1
      have HRG1 := hide hrg1
      clear hwo hblk hbo b2 c1 c2 hb2 hrg1 hrg hj
      cases hlb : langB tk.data.toList with
      | false =>
        have HN := hide (show pre = (l.take (k + 1)).filter (fun t => langB t.k.data.toList) from by rw [HSN.out, hlb]; simp)
        clear hlb hj1
        gi_wp2
        refine ⟨(fun _ e => nomatch e), ?_⟩
        gi_wp2
        go_roundw
        case rel => exact ⟨k + 1, pre, HL.out, by go_num, HN, HRG1, HJ1, by omega⟩
        case measure => have := HM.out; simp [intOf]; omega
      | true =>
        have hnew : pre ++ [⟨tk, tv⟩] = (l.take (k + 1)).filter (fun t => langB t.k.data.toList) := by rw [HSN.out, hlb]; simp
        have HN := hide hnew
        obtain ⟨fn, tmps, assign, body, hy, hR⟩ := HY.out pre ⟨tk, tv⟩ _ HMEM.out hj1 HPL.out
        unfold encN at hy
        simp only at hy
        have HR := hide hR
        clear hnew hlb hR hj1
        gi_wp2
        refine HR.out.mono ?_
        rintro e W3 (⟨rfl, hJ3, hk3⟩ | ⟨rfl, hJx3⟩)
        · have HRG := hide (HRG1.out.kept hk3)
          have hsz3 := hk3.1
          have HJ3 := hide hJ3
          clear hJ3 hk3
          gi_wp2
          go_roundw
          case rel => exact ⟨k + 1, pre ++ [⟨tk, tv⟩], HL.out, by go_num, HN, HRG, HJ3, by omega⟩
          case measure => have := HM.out; simp [intOf]; omega
        · have HJX := hide hJx3
          clear hJx3
          gi_wp2
          refine bodyPost_ret (results_none rfl _ _ _) rfl ?_
          refine ⟨⟨_, rfl⟩, .inr ⟨pre ++ [⟨tk, tv⟩], ?_, HJX.out⟩⟩
          rw [HN.out]
          exact names_pre l (k + 1)
    · obtain rfl : k = l.length := by omega
      have HP := hide (show pre = namesL l from by rw [hpre.out, List.take_length]; rfl)
      have HJ1 := hide hj.out
      clear hpre hj hrg
      gi_wp2
      go_end0
      exact ⟨⟨_, rfl⟩, .inl ⟨pre, HP.out, HJ1.out⟩⟩

theorem names_stops (n : Nat) (hn : 1 ≤ n) (B g : Nat) (A : Option Addr) (c : Nat) (l : List Tg) (hl : l.length ≤ 100000) (hk : ∀ t ∈ l, t.k.size ≤ 100000) (w : World) (hI : TgR B g A c l w) :
    SeqStopsK Fence.wide n Try.prog 38 #[.pointer (some ⟨B, 0, none⟩)] encN (Kr B g) (fun xs => xs = namesL l) (fun pre => pre <+: namesL l) l.length w :=
  fun y J Jx W hW hJ _ hY h0 => names_in n hn y B g A c l hl hk J Jx W hJ (fun pre x W1 _ => hY pre x W1) (hI.kept (Kr.below hW)) h0
/-- The same, the elements with a bound on their values. -/
structure Tv where
  t : Tg
  hv : t.v.size ≤ 100000
theorem map_snoc (pre : List Tv) (t : Tg) (h : t.v.size ≤ 100000) : (pre ++ [(⟨t, h⟩ : Tv)]).map Tv.t = pre.map Tv.t ++ [t] := by rw [List.map_append]; rfl
theorem names_stopsV (n : Nat) (hn : 1 ≤ n) (B g : Nat) (A : Option Addr) (c : Nat) (l : List Tg) (hl : l.length ≤ 100000) (hk : ∀ t ∈ l, t.k.size ≤ 100000 ∧ t.v.size ≤ 100000) (w : World) (hI : TgR B g A c l w) :
    SeqStopsK Fence.wide n Try.prog 38 #[.pointer (some ⟨B, 0, none⟩)] (fun x : Tv => encN x.t) (Kr B g) (fun xs => xs.map Tv.t = namesL l) (fun pre => pre.map Tv.t <+: namesL l) l.length w :=
  fun y J Jx W hW hJ _ hY h0 => by
    refine (names_in n hn y B g A c l hl (fun t ht => (hk t ht).1) (fun pre W' => ∃ q : List Tv, q.map Tv.t = pre ∧ J q W') (fun pre W' => ∃ q : List Tv, q.map Tv.t = pre ∧ Jx q W') W ?_ ?_ (hI.kept (Kr.below hW)) ⟨[], rfl, h0⟩).mono ?_
    · rintro s X Y row ⟨q, hq, hj⟩ hg hr
      exact ⟨q, hq, hJ q X Y row hj hg hr⟩
    · rintro pre x W1 hx ⟨q, rfl, hj⟩ hlt
      refine (hY q ⟨x, (hk x hx).2⟩ W1 hj (by simpa using hlt)).mono ?_
      rintro e W' (⟨h1, h2, h3⟩ | ⟨h1, h2⟩)
      · exact .inl ⟨h1, ⟨_, map_snoc q x _, h2⟩, h3⟩
      · exact .inr ⟨h1, ⟨_, map_snoc q x _, h2⟩⟩
    · rintro e W' ⟨hv, ⟨xs, rfl, q, hq, hj⟩ | ⟨pre, hp, q, rfl, hj⟩⟩
      · exact ⟨hv, .inl ⟨q, hq, hj⟩⟩
      · exact ⟨hv, .inr ⟨q, hp, hj⟩⟩
set_option maxHeartbeats 400000 in
theorem names_any (A : Option Addr) (n c : Nat) (w : World) : Calls Try.prog 26 #[.slice A n c] w fun e w' => e = .returned (.func (.func 38) #[] #[.pointer (some ⟨w.heap.size, 0, none⟩)]) ∧ w' = w.alloc (.cells #[.slice A n c] 25) := by
  go_enter Try.func26, Try.ntmps26
  go_wp2
  go_ret
  exact ⟨rfl, rfl⟩
end Go.Proofs.Ytjniicmhndflpaa
