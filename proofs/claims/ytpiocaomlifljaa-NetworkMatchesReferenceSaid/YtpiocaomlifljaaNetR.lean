/-
  The iterator over the arcs, walked inside the wide fence: what it yields.
-/
import Derived.Test.YtpiocaomlifljaaNetN
import Derived.Test.YtpiocaomlifljaaNetQ
import Derived.Test.YtpiocaomlifljaaPlain5
import Derived.Test.YtpiocaomlifljaaPlainL
import Derived.RangeFuncNested
import Derived.RangeFuncBound
import Derived.RangeFuncCalls
import Derived.RangeFuncLeaves
import Derived.Shelf.Abstract
import Derived.Shelf.RegionOpen
import Derived.Sort.QuietIn
import Derived.OwnWalkIn
import Derived.TacticsInMore
import Derived.LoopNIn
import Derived.LoopIn
import Derived.IntWalk
namespace Go.Proofs.Ytpiocaomlifljaa
open Go.RowKit Go.Proofs.PlLex Go.Proofs.PlNet Go.Proofs.PlMap Go.Proofs.PlGeom
attribute [local go_sem] Oper.semAt_some

/-- An arc of a moderate size. -/
structure Av where
  a : Ar
  hf : a.f.size ≤ 100000
  ht : a.t.size ≤ 100000
  hw : a.w.size ≤ 100000
  h0 : 0 ≤ a.n
  h1 : a.n ≤ 8000000
def encA (x : Av) : Array Value := #[arV x.a]
theorem dist_bounds (p q : Pt) : 0 ≤ dist p q ∧ dist p q ≤ 35184372088832 := by
  unfold dist
  by_cases h : nearL [p, q] = true
  · rw [if_pos h]
    simp only [nearL, Bool.and_eq_true, nearB_iff] at h
    obtain ⟨⟨h1, h2, h3, h4⟩, ⟨h5, h6, h7, h8⟩, _⟩ := h
    have key : ∀ a : Int, -4194304 ≤ a → a ≤ 4194304 → 0 ≤ a * a ∧ a * a ≤ 17592186044416 := by
      intro a h1 h2
      have : 0 ≤ (4194304 - a) * (4194304 + a) := Int.mul_nonneg (by omega) (by omega)
      have h3 : 0 ≤ a * a := by rcases Int.le_total 0 a with h | h; exact Int.mul_nonneg h h; exact Int.mul_nonneg_of_nonpos_of_nonpos h h
      refine ⟨h3, ?_⟩
      grind
    have := key (q.x - p.x) (by omega) (by omega)
    have := key (q.y - p.y) (by omega) (by omega)
    omega
  · rw [if_neg h]; omega
theorem isq_bounds (p q : Pt) : (isq (dist p q).toNat : Int) ≤ 8000000 := by
  have := dist_bounds p q
  have h := (isq_spec (dist p q).toNat (by omega)).1
  have h2 : isq (dist p q).toNat ≤ 8000000 := by
    rcases Nat.le_total (isq (dist p q).toNat) 8000000 with h3 | h3
    · exact h3
    · have := Nat.mul_le_mul h3 h3
      omega
  omega
theorem lenA_bounds (l : List Ob) (a b : ByteArray) : 0 ≤ lenA l a b ∧ lenA l a b ≤ 8000000 := by
  have := isq_bounds (ptAt l a) (ptAt l b)
  unfold lenA
  omega

theorem dist_symm (p q : Pt) : dist p q = dist q p := by
  unfold dist
  have e : nearL [p, q] = nearL [q, p] := by simp only [nearL, Bool.and_true]; exact Bool.and_comm _ _
  rw [e]
  split
  · have h1 : (q.x - p.x) = -(p.x - q.x) := by omega
    have h2 : (q.y - p.y) = -(p.y - q.y) := by omega
    rw [h1, h2, Int.neg_mul_neg, Int.neg_mul_neg]
  · rfl
theorem lenA_symm (l : List Ob) (a b : ByteArray) : lenA l a b = lenA l b a := by unfold lenA; rw [dist_symm]
/-- The network, as the iterator finds it. -/
structure ArI (wa : World) (v : Value) (bn bd bw B : Nat) (nl wl : List (ByteArray × Value)) (W : World) : Prop where
  nb : W.heap[bn]? = some (.cells #[v, .map (some bd), .map (some bw)] 67 (0, 0))
  nodes : MapS W bd nl
  ways : MapS W bw wl
  box : W.heap[B]? = some (.cells #[.pointer (some ⟨bn, 0, none⟩)] 61 (0, 0))
  old : ∀ b, b < wa.heap.size → W.heap[b]? = wa.heap[b]?
/-- What a round keeps: what was there ahead of the caller's boxes, the iterator's box, and objects in boxes. -/
def Kr (S B : Nat) (W W' : World) : Prop := W.heap.size ≤ W'.heap.size ∧ ∀ b o, W.heap[b]? = some o → (b < S ∨ b = B ∨ ∃ cs, o = .cells cs 42 (0, 0)) → W'.heap[b]? = some o
theorem Kr.trans {S B : Nat} {X Y Z : World} (h : Kr S B X Y) (k : Kr S B Y Z) : Kr S B X Z := ⟨Nat.le_trans h.1 k.1, fun b o ho hb => k.2 b o (h.2 b o ho hb) hb⟩
theorem Kr.below {S B : Nat} {W W' : World} (h : Below W.heap.size W W') : Kr S B W W' := ⟨h.size, fun _ _ ho _ => blkB h ho⟩
theorem Kr.putObj {S B : Nat} (W : World) (l : Nat) (o o' : Obj) (h1 : S ≤ l) (h2 : l ≠ B) (ho : W.heap[l]? = some o) (hc : o.isCells = false) : Kr S B W (W.putObj l o') := by
  have hg := grownBy_putObj' W l o'
  refine ⟨hg.size, fun b ob hob hb => (hg.block b (lt_of_block hob) (fun e => ?_)).trans hob⟩
  cases e
  rcases hb with h | h | ⟨cs, rfl⟩
  · omega
  · exact h2 h
  · rw [ho] at hob
    cases hob
    cases hc
theorem Kr.at {S B : Nat} {W W' : World} (h : Kr S B W W') {b : Nat} (hb : b < S ∨ b = B) (hl : b < W.heap.size) : W'.heap[b]? = W.heap[b]? := by
  have e := Array.getElem?_eq_getElem hl
  rw [e]
  exact h.2 b _ e (by rcases hb with h | h; exact .inl h; exact .inr (.inl h))
theorem ArI.kept {wa : World} {v : Value} {bn bd bw B S : Nat} {nl wl : List (ByteArray × Value)} {W W' : World} (h : ArI wa v bn bd bw B nl wl W) (hS : wa.heap.size ≤ S ∧ bn < S ∧ bd < S ∧ bw < S) (k : Kr S B W W') (hw : wa.heap.size ≤ W.heap.size) : ArI wa v bn bd bw B nl wl W' :=
  ⟨(k.at (.inl hS.2.1) (lt_of_block h.nb)).trans h.nb, h.nodes.same (k.at (.inl hS.2.2.1) h.nodes.lt), h.ways.same (k.at (.inl hS.2.2.2) h.ways.lt), (k.at (.inr rfl) (lt_of_block h.box)).trans h.box, fun b hb => (k.at (b := b) (.inl (by omega)) (by omega)).trans (h.old b hb)⟩
theorem ArI.cell {wa : World} {v : Value} {bn bd bw B : Nat} {nl wl : List (ByteArray × Value)} {W : World} (h : ArI wa v bn bd bw B nl wl W) {g i : Nat} {x : Value} (hc : wa.cell? ⟨g, i, none⟩ = some x) (hg : g < wa.heap.size) : W.cell? ⟨g, i, none⟩ = some x :=
  (World.cell?_of_block (a := ⟨g, i, none⟩) (h.old g hg)).trans hc
theorem grown_below {W W' : World} (h : Below W.heap.size W W') : W.grownBy W' none := ⟨h.os, h.tape, h.output, h.size, fun k hk _ => h.block k hk⟩
theorem ArI.way {wa : World} {v : Value} {bn bd bw B : Nat} {nl wl : List (ByteArray × Value)} {W : World} (h : ArI wa v bn bd bw B nl wl W) {s : ByteArray} (hs : s.size ≤ 100000) :
    (Instr.lookup 65 (.map (some bw)) (.string s) false).run Try.prog W = .ok ((getL wl s).getD (.slice none 0 0)) W :=
  h.ways.look Try.underlying65 zero_strs (x := s) (Nat.le_trans hs (by unfold maxLen; omega))
theorem ArI.node {wa : World} {v : Value} {l : List Ob} {bn bd bw B : Nat} {nl wl : List (ByteArray × Value)} {W : World} (h : ArI wa v bn bd bw B nl wl W) (hn : NodeRel nl (nodesO l)) (hm : mapB l = true) {s : ByteArray} (hs : s.size ≤ 100000) :
    (Instr.lookup 64 (.map (some bd)) (.string s) false).run Try.prog W = .ok (.agg #[.int .i64 (ptAt l s).x, .int .i64 (ptAt l s).y]) W := by
  have := h.nodes.look Try.underlying64 zero_point (x := s) (Nat.le_trans hs (by unfold maxLen; omega))
  rw [hn.at (mapB_uniq hm)] at this
  exact this
/-- A piece of code that ends as it goes on, and no other way. -/
def NormalPost (R : Act → World → Prop) : Exit → Act → World → Prop
  | .normal, a, w => R a w
  | _, _, _ => False
theorem NormalPost.imp {R : Act → World → Prop} {Q : Exit → Act → World → Prop} (h : ∀ a w, R a w → Q .normal a w) : ∀ e a w, NormalPost R e a w → Q e a w := fun e a w hh => by
  cases e <;> first | exact h a w hh | exact (hh : False).elim

/-- The worlds that have grown from one. -/
def Bls (w : World) : Type := {W' : World // Below w.heap.size w W'}
def Bls.w {w : World} (u : Bls w) : World := u.1
theorem Bls.go {w : World} (u : Bls w) {w8 : World} (hb : Below u.w.heap.size u.w w8) : ∃ u' : Bls w, w8 = u'.w := ⟨⟨w8, bto u.2 hb⟩, rfl⟩
/-- The one world. -/
def Sam (w : World) : Type := {W' : World // W' = w}
def Sam.w {w : World} (u : Sam w) : World := u.1
theorem wpIn_region_quietW {F : Fence} {n : Nat} {P : Program} {id : Nat} {Q : Exit → Act → World → Prop} {a : Act} {w : World} {l : List Oper} {J : Type} (W : J → World) (u : J) (hu : w.drew = W u) (hro : F.round = none) (hm : P.follows .mixedOrders = true) (hB : Region.lexB .any l.toArray = true)
    (h : wpQuietIn F n P l.toArray (fun w' => ∃ u, w' = W u) (fun a' => ∀ w', (∃ u, w' = W u) → Q .normal a' w') l a) : (Code.region id l.toArray true).wpIn F n P Q a w :=
  wpIn_region_quiet (C := fun w' => ∃ u, w' = W u) hro hm hB ⟨u, hu⟩ (by simpa using h)
/-- What the iterator is given. -/
structure ArP (wa : World) (A : Option Addr) (c : Nat) (l : List Ob) (nl wl : List (ByteArray × Value)) : Prop where
  len : l.length ≤ 100000
  ok : ∀ o ∈ l, okO o
  mb : mapB l = true
  nr : NodeRel nl (nodesO l)
  wr : WayRel wa wl (waysO l)
  obs : l = [] ∨ ∃ g o, A = some ⟨g, o, none⟩ ∧ g < wa.heap.size ∧ ObsO wa g o l

theorem ArP.way {wa : World} {A : Option Addr} {c : Nat} {l : List Ob} {nl wl : List (ByteArray × Value)} (h : ArP wa A c l nl wl) (s : ByteArray) :
    ((getL wl s).getD (.slice none 0 0) = .slice none 0 0 ∧ wayAt l s = none) ∨
    ∃ g o c refs, (getL wl s).getD (.slice none 0 0) = .slice (some ⟨g, o, none⟩) refs.length c ∧ wayAt l s = some refs ∧ WayO wa g o c refs := by
  rcases h.wr.at (mapB_uniq h.mb) s with ⟨h1, h2⟩ | ⟨v1, refs, h1, h2, h3⟩
  · exact .inl ⟨h1, h2⟩
  · rw [h1]
    obtain ⟨ob, ho, _, hk, hr, _⟩ := wayAt_some h2
    have hl := obB_least (mapB_obs h.mb ob ho)
    rw [hk, hr] at hl
    have hl2 : 2 ≤ refs.length := hl
    obtain ⟨A, c, rfl, hc, h4⟩ := h3
    obtain ⟨g, o, rfl, hg, hp⟩ := h4.resolve_left (by rintro rfl; simp at hl2)
    refine .inr ⟨g, o, c, refs, rfl, h2, hg, hp, hl2, hc, ?_, ?_⟩
    · rw [← hr]; exact (h.ok ob ho).2.1
    · rw [← hr]; exact (h.ok ob ho).2.2.1
set_option maxRecDepth 100000 in
set_option maxHeartbeats 8000000 in
theorem arcs_in (n : Nat) (hn : 1 ≤ n) (wa : World) (A : Option Addr) (c : Nat) (l : List Ob) (bn bd bw B S : Nat) (nl wl : List (ByteArray × Value)) (hP : ArP wa A c l nl wl) (hS : wa.heap.size ≤ S ∧ bn < S ∧ bd < S ∧ bw < S)
    (y : Nat) (J Jx : List Av → World → Prop) (W : World) (hJ : AbidesFrom W.heap.size J)
    (hY : ∀ pre x W1, J pre W1 → pre.length < (allArcs l).length → YieldAt Fence.wide (n - 1) Try.prog y (encA x) W1 fun e W' =>
      (e = .returned (.bool true) ∧ J (pre ++ [x]) W' ∧ Kr S B W1 W') ∨ (e = .returned (.bool false) ∧ Jx (pre ++ [x]) W'))
    (hI : ArI wa (.slice A l.length c) bn bd bw B nl wl W) (hwa : wa.heap.size ≤ W.heap.size) (h0 : J [] W) :
    CallsIn Fence.wide n Try.prog 61 #[.func (.yield y) #[] #[], .pointer (some ⟨B, 0, none⟩)] W fun e W' => (∃ v, e = .returned v) ∧
      ((∃ xs, xs.map Av.a = allArcs l ∧ J xs W') ∨ (∃ pre, pre.map Av.a <+: allArcs l ∧ Jx pre W')) := by
  have HY := hide hY
  have HJ := hide hJ
  have HP := hide hP
  have HS := hide hS
  have hlen := hP.len
  have n0 : W.cell? ⟨B, 0, none⟩ = some (.pointer (some ⟨bn, 0, none⟩)) := (blk1 hI.box).1
  have n1 : W.cell? ⟨bn, 0, none⟩ = some (.slice A l.length c) := cell_of_row W _ 0 _ _ _ hI.nb
  clear hY hJ hP hS
  have hf : Fence.wide.fn 62 := trivial
  have hf2 : Fence.wide.fn 63 := trivial
  refine callsIn_of_wp Try.func61 rfl trivial ?_ rfl
  simp only [Try.ntmps61, List.size_toArray, List.length_cons, List.length_nil, Nat.reduceAdd, Nat.reduceSub, Array.replicate_succ, Array.replicate_zero, List.push_toArray, List.append_toArray, List.nil_append, List.cons_append]
  gi_wp2
  clear n0 n1
  gi_loopw [13] (fun i wr => ∃ (k : Nat) (pre : List Av), k ≤ l.length ∧ i = .int .i64 k ∧ Hid (pre.map Av.a = (l.take k).flatMap (arcsO l)) ∧ Hid (ArI wa (.slice A l.length c) bn bd bw B nl wl wr) ∧ Hid (J pre wr) ∧ W.heap.size ≤ wr.heap.size) (fun i _ => l.length - (intOf i).toNat)
  case atStart => exact ⟨0, [], Nat.zero_le _, rfl, rfl, hI, h0, Nat.le_refl _⟩
  case round =>
    clear hI h0
    obtain ⟨k, pre, hk, rfl, hpre, hrg, hj, hsz⟩ := hrel
    by_cases hlt : k < l.length
    · obtain ⟨g, o, rfl, hg, hp⟩ := HP.out.obs.resolve_left (by rintro rfl; simp at hlt)
      obtain ⟨rv, tv, hoa⟩ := hp k _ (List.getElem?_eq_getElem hlt)
      have hmem := List.getElem_mem hlt
      have hok := HP.out.ok _ hmem
      have hsp := allArcs_split l k hlt
      have htk : l.take (k + 1) = l.take k ++ [l[k]] := List.take_succ_eq_append_getElem hlt
      generalize l[k] = t at *
      obtain ⟨Ao, co, hrv, _⟩ := id hoa.refs
      obtain ⟨Ag, cg, htv, _⟩ := id hoa.tags
      subst hrv
      subst htv
      have c0 := hrg.out.cell hoa.c0 hg
      have c1 := hrg.out.cell hoa.c1 hg
      have c2 := hrg.out.cell hoa.c2 hg
      have c3 := hrg.out.cell hoa.c3 hg
      have c4 := hrg.out.cell hoa.c4 hg
      have c5 := hrg.out.cell hoa.c5 hg
      obtain ⟨wo, hwo⟩ : ∃ wo, wr.alloc (.cells #[.string t.id, .int .i64 t.kind, .int .i64 t.x, .int .i64 t.y, .slice Ao t.refs.length co, .slice Ag t.tags.length cg] 42) = wo := ⟨_, rfl⟩
      have hblk : wo.heap[wr.heap.size]? = some (.cells #[.string t.id, .int .i64 t.kind, .int .i64 t.x, .int .i64 t.y, .slice Ao t.refs.length co, .slice Ag t.tags.length cg] 42 (0, 0)) := by rw [← hwo]; exact heap_alloc_new _ _
      have hbo : Below wr.heap.size wr wo := by rw [← hwo]; exact (Below.refl _ _).alloc (Nat.le_refl _) _
      have hrg2 := hrg.out.kept HS.out (Kr.below (S := S) (B := B) hbo) (by omega)
      have d0 : wo.cell? ⟨wr.heap.size, 0, none⟩ = some (.string t.id) := cell_of_row wo _ 0 _ _ _ hblk
      have d1 : wo.cell? ⟨wr.heap.size, 1, none⟩ = some (.int .i64 t.kind) := cell_of_row wo _ 1 _ _ _ hblk
      have m0 : wo.cell? ⟨B, 0, none⟩ = some (.pointer (some ⟨bn, 0, none⟩)) := (blk1 hrg2.box).1
      have m2 : wo.cell? ⟨bn, 2, none⟩ = some (.map (some bw)) := cell_of_row wo _ 2 _ _ _ hrg2.nb
      have hlook := fun q => ArI.way (hrg2.kept HS.out (Kr.below (S := S) (B := B) (below_drewN' (Below.refl _ wo) q)) (Nat.le_trans (by omega) hbo.size)) hok.1
      have k0 : (0 : Int) ≤ k := by omega
      have k1 : (k : Int) < l.length := by omega
      have HRG := hide hrg2
      have HJW := hide (HJ.out _ wr _ none hj.out (grown_below hbo) (fun r e => by cases e))
      have HWV := hide (HP.out.way t.id)
      generalize (getL wl t.id).getD (.slice none 0 0) = wv at *
      gi_wp2
      have hmx : Try.prog.follows .mixedOrders = true := by kernel_rfl
      gi_quiet (fail)
      have HRGD := hide (hrg2.kept HS.out (Kr.below (S := S) (B := B) (below_drewN' (Below.refl _ wo) nq)) (Nat.le_trans (by omega) hbo.size))
      have HJWD := hide (HJ.out _ _ _ none HJW.out (grown_below (below_drewN' (Below.refl _ wo) nq)) (fun r e => by cases e))
      have hblkd : (wo.drewN nq).heap[wr.heap.size]? = some (.cells #[.string t.id, .int .i64 t.kind, .int .i64 t.x, .int .i64 t.y, .slice Ao t.refs.length co, .slice Ag t.tags.length cg] 42 (0, 0)) := hblk
      have hszd : W.heap.size ≤ (wo.drewN nq).heap.size := by have := hbo.size; show W.heap.size ≤ wo.heap.size; omega
      obtain ⟨b0, hb0⟩ : ∃ b0, b0 = wr.heap.size := ⟨_, rfl⟩
      rw [← hb0] at hblkd ⊢
      have f1 : (wo.drewN nq).cell? ⟨b0, 1, none⟩ = some (.int .i64 t.kind) := cell_of_row _ _ 1 _ _ _ hblkd
      clear hlook m0 m2 d0 d1 c0 c1 c2 c3 c4 c5 hwo hblk hbo hrg2 HJW HRG hp hoa hmem hj hrg
      have HB0 := hide hb0
      clear hb0
      generalize wo.drewN nq = wd at *
      have HL := hide hlt
      have HM := hide (show l.length - (k + 1) < l.length - k from by omega)
      have HBL := hide hblkd
      have HPR := hide hpre.out
      by_cases h2 : t.kind = 2
      · rw [h2] at f1 HBL
        obtain ⟨A2, c2, r, hwv, hway, hr⟩ : ∃ A2 c2 r, wv = .slice A2 r.length c2 ∧ (wayAt l t.id).getD [] = r ∧ (r = [] ∨ ∃ g2 o2, A2 = some ⟨g2, o2, none⟩ ∧ WayO wa g2 o2 c2 r) := by
          rcases HWV.out with ⟨h1, h2⟩ | ⟨g2, o2, c2, r, h1, h2, h3⟩
          · exact ⟨none, 0, [], h1, by rw [h2]; rfl, .inl rfl⟩
          · exact ⟨_, c2, r, h1, by rw [h2]; rfl, .inr ⟨g2, o2, rfl, h3⟩⟩
        subst hwv
        have hao : arcsO l t = arcsP l t.id r := by unfold arcsO; rw [if_pos h2, hway]
        have HAO := hide hao
        have HRR := hide hr
        have hrl : r.length ≤ 100000 := by
          rcases hr with h | ⟨g2, o2, _, h⟩
          · rw [h]; simp
          · exact h.many
        have HSP := hide hsp
        clear hao hr hway HWV hsp h2
        gi_wp2
        gi_loopw [6] (fun i wr => ∃ (m : Nat) (pre : List Av), 1 ≤ m ∧ m ≤ max 1 r.length ∧ i = .int .i64 m ∧ Hid (pre.map Av.a = (l.take k).flatMap (arcsO l) ++ arcsP l t.id (r.take m)) ∧ Hid (ArI wa (.slice (some ⟨g, o, none⟩) l.length c) bn bd bw B nl wl wr) ∧ Hid (J pre wr) ∧ Hid (wr.heap[b0]? = some (.cells #[.string t.id, .int .i64 2, .int .i64 t.x, .int .i64 t.y, .slice Ao t.refs.length co, .slice Ag t.tags.length cg] 42 (0, 0))) ∧ W.heap.size ≤ wr.heap.size) (fun i _ => r.length - (intOf i).toNat)
        case atStart => exact ⟨1, pre, Nat.le_refl _, by omega, rfl, (by show _ = _; rw [HPR.out]; cases r <;> simp [arcsP]), HRGD, HJWD, HBL, hszd⟩
        case round =>
          clear HRGD HJWD HBL HPR
          obtain ⟨m, pre, hm1, hm2, rfl, hpre, hrg, hj, hob, hsz⟩ := hrel
          by_cases hlt2 : m < r.length
          · obtain ⟨g2, o2, rfl, hwo⟩ := HRR.out.resolve_left (by rintro rfl; simp at hlt2)
            obtain ⟨a, ha⟩ : ∃ a, r[m - 1]? = some a := ⟨_, List.getElem?_eq_getElem (by omega)⟩
            obtain ⟨b, hb⟩ : ∃ b, r[m]? = some b := ⟨_, List.getElem?_eq_getElem hlt2⟩
            have hsa := hwo.size a (List.mem_of_getElem? ha)
            have hsb := hwo.size b (List.mem_of_getElem? hb)
            have hsn := arcsP_snoc l t.id r (m - 1) a b ha (by rw [show m - 1 + 1 = m from by omega]; exact hb)
            rw [show m - 1 + 2 = m + 1 from by omega, show m - 1 + 1 = m from by omega] at hsn
            have za : ∀ u : Bls wr, u.w.cell? ⟨g2, o2 + (m - 1), none⟩ = some (.string a) := fun u => (hrg.out.kept HS.out (Kr.below (S := S) (B := B) u.2) (by omega)).cell (hwo.strs _ _ ha) hwo.lt
            have zb : ∀ u : Bls wr, u.w.cell? ⟨g2, o2 + m, none⟩ = some (.string b) := fun u => (hrg.out.kept HS.out (Kr.below (S := S) (B := B) u.2) (by omega)).cell (hwo.strs _ _ hb) hwo.lt
            have z0 : ∀ u : Bls wr, u.w.cell? ⟨B, 0, none⟩ = some (.pointer (some ⟨bn, 0, none⟩)) := fun u => (blk1 (hrg.out.kept HS.out (Kr.below (S := S) (B := B) u.2) (by omega)).box).1
            have z1 : ∀ u : Bls wr, u.w.cell? ⟨bn, 1, none⟩ = some (.map (some bd)) := fun u => cell_of_row u.w _ 1 _ _ _ (hrg.out.kept HS.out (Kr.below (S := S) (B := B) u.2) (by omega)).nb
            have la : ∀ u : Bls wr, (Instr.lookup 64 (.map (some bd)) (.string a) false).run Try.prog u.w = .ok (.agg #[.int .i64 (ptAt l a).x, .int .i64 (ptAt l a).y]) u.w := fun u => (hrg.out.kept HS.out (Kr.below (S := S) (B := B) u.2) (by omega)).node HP.out.nr HP.out.mb hsa
            have lb : ∀ u : Bls wr, (Instr.lookup 64 (.map (some bd)) (.string b) false).run Try.prog u.w = .ok (.agg #[.int .i64 (ptAt l b).x, .int .i64 (ptAt l b).y]) u.w := fun u => (hrg.out.kept HS.out (Kr.below (S := S) (B := B) u.2) (by omega)).node HP.out.nr HP.out.mb hsb
            have hdb := dist_bounds (ptAt l a) (ptAt l b)
            obtain ⟨dn, hdn⟩ : ∃ dn : Nat, dist (ptAt l a) (ptAt l b) = dn := ⟨(dist (ptAt l a) (ptAt l b)).toNat, by omega⟩
            have HD := hide (fun w => G.distance_any (ptAt l a).x (ptAt l a).y (ptAt l b).x (ptAt l b).y w)
            have HLA : Hid (max 1 (isq dn : Int) = lenA l a b) := by show _ = _; unfold lenA; rw [hdn]; rfl
            have HROOT := hide (fun w => G.root_any dn (by omega) w)
            rw [show dist ⟨(ptAt l a).x, (ptAt l a).y⟩ ⟨(ptAt l b).x, (ptAt l b).y⟩ = (dn : Int) from hdn] at HD
            have hlb := lenA_bounds l a b
            generalize isq dn = q at *
            generalize (ptAt l a).x = x1 at *
            generalize (ptAt l a).y = y1 at *
            generalize (ptAt l b).x = x2 at *
            generalize (ptAt l b).y = y2 at *
            have k2 : (0 : Int) ≤ (m : Int) - 1 := by omega
            have k3 : (m : Int) < r.length := by omega
            have k4 : (m : Int) - 1 < r.length := by omega
            have k5 : ((m : Int) - 1).toNat = m - 1 := by omega
            have k6 : (0 : Int) ≤ m := by omega
            have HSN := hide hsn
            have HPRE := hide hpre.out
            have HRGI := hide hrg.out
            have HOB := hide hob.out
            have HJP := hide hj.out
            have HWO := hide hwo
            have HSA := hide ha
            have HSB := hide hb
            clear hsn hpre hrg hj hob hwo hdb hdn ha hb
            gi_wp2
            have YN : Nonempty (Bls wr) := ⟨⟨_, below_drew wr⟩⟩
            refine wpIn_region_quietW (J := Bls wr) Bls.w ⟨_, below_drew wr⟩ rfl rfl hmx (by kernel_rfl) ?_
            repeat (gi_big_quiet_step ((first | (gi_at_call 63; refine (callsIn_wide.2 (HD.out _)).mono ?_; rintro _ w8 ⟨rfl, b8⟩; exact ⟨rfl, Bls.go _ b8⟩) | (gi_at_call 62; refine (callsIn_wide.2 (HROOT.out _)).mono ?_; rintro _ w8 ⟨rfl, rfl⟩; exact ⟨rfl, ⟨_, rfl⟩⟩))))
            refine wpQuietIn_nil ?_
            rintro w9 ⟨u, rfl⟩
            obtain ⟨qq, hqq⟩ : ∃ qq, max 1 (q : Int) = qq := ⟨_, rfl⟩
            have HQQ := hide (hqq.symm.trans HLA.out)
            have hrg9 := HRGI.out.kept HS.out (Kr.below (S := S) (B := B) u.2) (by omega)
            have hob9 := blkB u.2 HOB.out
            have hj9 := HJ.out _ _ _ none HJP.out (grown_below u.2) (fun r e => by cases e)
            have hsz9 := u.2.size
            clear za zb z0 z1 la lb YN HD HROOT HRGI HOB HJP HLA
            rw [show (u.w : World) = u.1 from rfl]
            generalize u.1 = wx at *
            have s2 : W.heap.size ≤ wx.heap.size := by omega
            have HRG9 := hide hrg9
            have HOB9 := hide hob9
            have za : ∀ u : Bls wx, u.w.cell? ⟨g2, o2 + (m - 1), none⟩ = some (.string a) := fun u => (HRG9.out.kept HS.out (Kr.below (S := S) (B := B) u.2) (by omega)).cell (HWO.out.strs _ _ HSA.out) HWO.out.lt
            have zb : ∀ u : Bls wx, u.w.cell? ⟨g2, o2 + m, none⟩ = some (.string b) := fun u => (HRG9.out.kept HS.out (Kr.below (S := S) (B := B) u.2) (by omega)).cell (HWO.out.strs _ _ HSB.out) HWO.out.lt
            have z0 : ∀ u : Bls wx, u.w.cell? ⟨b0, 0, none⟩ = some (.string t.id) := fun u => cell_of_row u.w _ 0 _ _ _ (blkB u.2 HOB9.out)
            have YN : Nonempty (Bls wx) := ⟨⟨_, below_drew wx⟩⟩
            have hqq' := hqq
            have HWO2 := HWO
            clear hrg9 hob9 hqq
            gi_wp2
            rw [hqq']
            refine wpIn_region_uptoL 14 20 (fun w' => ∃ u : Bls wx, w' = u.w) rfl hmx (by kernel_rfl) (by kernel_rfl) (by kernel_rfl) ⟨⟨_, below_drew wx⟩, rfl⟩ (by kernel_rfl) ?_
            simp only [List.take_succ_cons, List.take_zero]
            repeat (gi_big_quiet_step (fail))
            refine wpQuietIn_nil ?_
            rintro w9 ⟨u2, rfl⟩
            have hb9 := u2.2
            change wpAnyIn _ _ _ _ _ _ _ _ _ u2.1
            generalize u2.1 = wy at *
            have hj2 := HJ.out _ _ _ none hj9 (grown_below hb9) (fun r e => by cases e)
            have hrg2 := HRG9.out.kept HS.out (Kr.below (S := S) (B := B) hb9) (by omega)
            have hob2 := blkB hb9 HOB9.out
            have hsz2 := hb9.size
            have HPF : Hid (pre.map Av.a ++ [⟨a, b, t.id, qq⟩, ⟨b, a, t.id, qq⟩] <+: allArcs l) := by
              show _ <+: _
              rw [HSP.out, HAO.out, HPRE.out, List.append_assoc]
              refine (List.prefix_append_right_inj _).2 ?_
              have h5 := arcsP_pre l t.id r (m + 1)
              rw [HSN.out, ← HQQ.out] at h5
              obtain ⟨tl, htl⟩ := h5
              rw [← htl, List.append_assoc]
              exact List.prefix_append _ _
            have hlen := HPF.out.length_le
            simp only [List.length_append, List.length_map, List.length_cons, List.length_nil] at hlen
            have hq0 : 0 ≤ qq ∧ qq ≤ 8000000 := by rw [HQQ.out]; exact hlb
            obtain ⟨xa, hxa⟩ : ∃ xa : Av, xa.a = ⟨a, b, t.id, qq⟩ := ⟨⟨⟨a, b, t.id, qq⟩, hsa, hsb, hok.1, hq0.1, hq0.2⟩, rfl⟩
            obtain ⟨xb, hxb⟩ : ∃ xb : Av, xb.a = ⟨b, a, t.id, qq⟩ := ⟨⟨⟨b, a, t.id, qq⟩, hsb, hsa, hok.1, hq0.1, hq0.2⟩, rfl⟩
            obtain ⟨fn, tmps, assign, body, hy, hR⟩ := HY.out pre xa _ hj2 (by omega)
            unfold encA arV at hy
            rw [hxa] at hy
            simp only at hy
            have HRR1 := hide hR
            clear hR hj2 hj9 za zb z0 YN HWO2
            refine wpAnyIn_one (by kernel_rfl) rfl (fun K hK => ?_)
            go_simp
            gi_wp2
            refine HRR1.out.mono ?_
            rintro e W3 (⟨rfl, hJ3, hk3⟩ | ⟨rfl, hJx3⟩)
            · have hrg3 := hrg2.kept HS.out hk3 (by omega)
              have hob3 : W3.heap[b0]? = some (.cells #[.string t.id, .int .i64 2, .int .i64 t.x, .int .i64 t.y, .slice Ao t.refs.length co, .slice Ag t.tags.length cg] 42 (0, 0)) := hk3.2 _ _ hob2 (.inr (.inr ⟨_, rfl⟩))
              have hsz3 := hk3.1
              have s3 : W.heap.size ≤ W3.heap.size := by omega
              have HRG3 := hide hrg3
              have HOB3 := hide hob3
              have HJ3 := hide hJ3
              have za : ∀ u : Bls W3, u.w.cell? ⟨g2, o2 + (m - 1), none⟩ = some (.string a) := fun u => (HRG3.out.kept HS.out (Kr.below (S := S) (B := B) u.2) (by omega)).cell (HWO.out.strs _ _ HSA.out) HWO.out.lt
              have zb : ∀ u : Bls W3, u.w.cell? ⟨g2, o2 + m, none⟩ = some (.string b) := fun u => (HRG3.out.kept HS.out (Kr.below (S := S) (B := B) u.2) (by omega)).cell (HWO.out.strs _ _ HSB.out) HWO.out.lt
              have z0 : ∀ u : Bls W3, u.w.cell? ⟨b0, 0, none⟩ = some (.string t.id) := fun u => cell_of_row u.w _ 0 _ _ _ (blkB u.2 HOB3.out)
              have YN : Nonempty (Bls W3) := ⟨⟨_, Below.refl _ _⟩⟩
              clear hrg3 hob3 hJ3 hk3 HRR1 hy hrg2 hob2
              simp only
              refine hK _ _ ?_
              clear hK K
              refine wpAnyIn_uptoL 31 3 (fun w' => ∃ u : Bls W3, w' = u.w) rfl (by kernel_rfl) (by kernel_rfl) (by kernel_rfl) (by kernel_rfl) ⟨⟨_, Below.refl _ _⟩, rfl⟩ rfl (by kernel_rfl) ?_
              simp only [List.take_succ_cons, List.take_zero, List.drop_succ_cons, List.drop_zero]
              repeat (gi_big_quiet_step (fail))
              refine wpQuietIn_nil ?_
              rintro w9 ⟨u3, rfl⟩
              have hb10 := u3.2
              change wpAnyIn _ _ _ _ _ _ _ _ _ u3.1
              generalize u3.1 = wz at *
              have hj4 := HJ.out _ _ _ none HJ3.out (grown_below hb10) (fun r e => by cases e)
              have hrg4 := HRG3.out.kept HS.out (Kr.below (S := S) (B := B) hb10) (by omega)
              have hob4 := blkB hb10 HOB3.out
              have hsz4 := hb10.size
              obtain ⟨fn, tmps, assign, body, hy, hR⟩ := HY.out (pre ++ [xa]) xb _ hj4 (by simp only [List.length_append, List.length_cons, List.length_nil]; omega)
              unfold encA arV at hy
              rw [hxb] at hy
              simp only at hy
              have HRR2 := hide hR
              clear hR hj4 za zb z0 YN HJ3 HRG3 HOB3
              refine wpAnyIn_one (by kernel_rfl) rfl (fun K hK => ?_)
              go_simp
              gi_wp2
              refine HRR2.out.mono ?_
              rintro e W5 (⟨rfl, hJ5, hk5⟩ | ⟨rfl, hJx5⟩)
              · have hrg5 := hrg4.kept HS.out hk5 (by omega)
                have hob5 : W5.heap[b0]? = some (.cells #[.string t.id, .int .i64 2, .int .i64 t.x, .int .i64 t.y, .slice Ao t.refs.length co, .slice Ag t.tags.length cg] 42 (0, 0)) := hk5.2 _ _ hob4 (.inr (.inr ⟨_, rfl⟩))
                have hsz5 := hk5.1
                have s5 : W.heap.size ≤ W5.heap.size := by omega
                have HRG5 := hide hrg5
                have HOB5 := hide hob5
                have HJ5 := hide hJ5
                have YN : Nonempty (Bls W5) := ⟨⟨_, Below.refl _ _⟩⟩
                clear hrg5 hob5 hJ5 hk5 HRR2 hy hrg4 hob4
                simp only
                refine hK _ _ ?_
                clear hK K
                refine wpAnyIn_toEndL (fun w' => ∃ u : Bls W5, w' = u.w) rfl (by kernel_rfl) (by kernel_rfl) ⟨⟨_, Below.refl _ _⟩, rfl⟩ (by kernel_rfl) ?_
                simp only [List.drop_succ_cons, List.drop_zero]
                repeat (gi_big_quiet_step (fail))
                refine wpQuietIn_nil ?_
                rintro w9 ⟨u5, rfl⟩
                have hb11 := u5.2
                rw [show (u5.w : World) = u5.1 from rfl]
                generalize u5.1 = wv at *
                have HRG6 := hide (HRG5.out.kept HS.out (Kr.below (S := S) (B := B) hb11) (by omega))
                have HOB6 := hide (blkB hb11 HOB5.out)
                have HJ6 := hide (HJ.out _ _ _ none HJ5.out (grown_below hb11) (fun r e => by cases e))
                have hsz6 := hb11.size
                have s6 : W.heap.size ≤ wv.heap.size := by omega
                have HN6 : Hid ((pre ++ [xa] ++ [xb]).map Av.a = (l.take k).flatMap (arcsO l) ++ arcsP l t.id (r.take (m + 1))) := by
                  show _ = _
                  rw [HSN.out, ← HQQ.out, List.map_append, List.map_append, HPRE.out]
                  simp [hxa, hxb]
                clear HRG5 HOB5 HJ5 YN hb11 HPF HSN HPRE
                gi_wp2
                go_roundw
                case rel => exact ⟨m + 1, pre ++ [xa] ++ [xb], by omega, by omega, by go_num, HN6, HRG6, HJ6, HOB6, s6⟩
                case measure => simp [intOf]; omega
              · have YN : Nonempty (Sam W5) := ⟨⟨_, rfl⟩⟩
                have HJX := hide hJx5
                have HPX : Hid ((pre ++ [xa] ++ [xb]).map Av.a <+: allArcs l) := by
                  show _ <+: _
                  have := HPF.out
                  rw [List.map_append, List.map_append]
                  simpa [hxa, hxb] using this
                clear HRR2 hy hrg4 hob4 hJx5
                simp only
                refine hK _ _ ?_
                clear hK K
                refine wpAnyIn_toEndL (fun w' => ∃ u : Sam W5, w' = u.w) rfl (by kernel_rfl) (by kernel_rfl) ⟨⟨_, rfl⟩, rfl⟩ (by kernel_rfl) ?_
                simp only [List.drop_succ_cons, List.drop_zero]
                repeat (gi_big_quiet_step (fail))
                refine wpQuietIn_nil ?_
                rintro w9 ⟨u5, rfl⟩
                have hb11 := u5.2
                rw [show (u5.w : World) = u5.1 from rfl]
                rw [hb11]
                clear hb11 u5 YN
                gi_wp2
                refine bodyPost_ret (results_none rfl _ _ _) rfl ?_
                exact ⟨⟨_, rfl⟩, .inr ⟨pre ++ [xa] ++ [xb], HPX.out, HJX.out⟩⟩
            · have YN : Nonempty (Sam W3) := ⟨⟨_, rfl⟩⟩
              have HJX := hide hJx3
              have HPX : Hid ((pre ++ [xa]).map Av.a <+: allArcs l) := by
                show _ <+: _
                have := HPF.out
                rw [List.map_append]
                refine List.IsPrefix.trans ?_ this
                simp [hxa]
              clear HRR1 hy hrg2 hob2 hJx3
              simp only
              refine hK _ _ ?_
              clear hK K
              refine wpAnyIn_toEndL (fun w' => ∃ u : Sam W3, w' = u.w) rfl (by kernel_rfl) (by kernel_rfl) ⟨⟨_, rfl⟩, rfl⟩ (by kernel_rfl) ?_
              simp only [List.drop_succ_cons, List.drop_zero]
              repeat (gi_big_quiet_step (fail))
              refine wpQuietIn_step (fun _ _ _ _ => trivial) (fun K hK => ?_)
              go_simp
              refine hK _ ?_
              clear hK K
              repeat (gi_big_quiet_step (fail))
              refine wpQuietIn_nil ?_
              rintro w9 ⟨u5, rfl⟩
              have hb11 := u5.2
              rw [show (u5.w : World) = u5.1 from rfl]
              rw [hb11]
              clear hb11 u5 YN
              gi_wp2
              refine bodyPost_ret (results_none rfl _ _ _) rfl ?_
              exact ⟨⟨_, rfl⟩, .inr ⟨pre ++ [xa], HPX.out, HJX.out⟩⟩
          · have hrm : r.take m = r := List.take_of_length_le (by omega)
            have hpr := hpre.out
            rw [hrm] at hpr
            have HN := hide (show pre.map Av.a = (l.take (k + 1)).flatMap (arcsO l) from by rw [hpr, htk, List.flatMap_append, List.flatMap_cons, HAO.out]; simp)
            have HRGX := hide hrg.out
            have HJX := hide hj.out
            have h3 : ¬ (m : Int) < r.length := by omega
            clear hpre hrg hj hob hpr hrm htk
            gi_wp2
            refine ⟨⟨k + 1, pre, HL.out, by go_num, HN, HRGX, HJX, hsz⟩, ?_⟩
            have := HM.out
            simp [intOf]; omega
      · have h2b : (t.kind != 2) = true := bne_iff_ne.2 h2
        have h2c : (t.kind == 2) = false := beq_eq_false_iff_ne.2 h2
        have hao : arcsO l t = [] := by unfold arcsO; rw [if_neg h2]
        have HN := hide (show pre.map Av.a = (l.take (k + 1)).flatMap (arcsO l) from by rw [HPR.out, htk, List.flatMap_append, List.flatMap_cons, hao]; simp)
        clear hao hsp htk
        gi_wp2
        go_roundw
        case rel => exact ⟨k + 1, pre, HL.out, by go_num, HN, HRGD, HJWD, hszd⟩
        case measure => have := HM.out; simp [intOf]; omega
    · obtain rfl : k = l.length := by omega
      have HPA := hide (show pre.map Av.a = allArcs l from by rw [hpre.out, List.take_length]; rfl)
      have HJX := hide hj.out
      clear hpre hj hrg
      gi_wp2
      go_end0
      exact ⟨⟨_, rfl⟩, .inl ⟨pre, HPA.out, HJX.out⟩⟩

theorem arcs_stops (n : Nat) (hn : 1 ≤ n) (wa : World) (A : Option Addr) (c : Nat) (l : List Ob) (bn bd bw B S : Nat) (nl wl : List (ByteArray × Value)) (hP : ArP wa A c l nl wl) (hS : wa.heap.size ≤ S ∧ bn < S ∧ bd < S ∧ bw < S) (w : World) (hI : ArI wa (.slice A l.length c) bn bd bw B nl wl w) (hwa : wa.heap.size ≤ w.heap.size) :
    SeqStopsK Fence.wide n Try.prog 61 #[.pointer (some ⟨B, 0, none⟩)] encA (Kr S B) (fun xs => xs.map Av.a = allArcs l) (fun pre => pre.map Av.a <+: allArcs l) (allArcs l).length w :=
  fun y J Jx W hW hJ _ hY h0 => arcs_in n hn wa A c l bn bd bw B S nl wl hP hS y J Jx W hJ hY (hI.kept hS (Kr.below hW) hwa) (Nat.le_trans hwa hW.size) h0
set_option maxHeartbeats 400000 in
theorem arcsf_any (bn : Nat) (w : World) : Calls Try.prog 40 #[.pointer (some ⟨bn, 0, none⟩)] w fun e w' => e = .returned (.func (.func 61) #[] #[.pointer (some ⟨w.heap.size, 0, none⟩)]) ∧ w' = w.alloc (.cells #[.pointer (some ⟨bn, 0, none⟩)] 61) := by
  go_enter Try.func40, Try.ntmps40
  go_wp2
  go_ret
  exact ⟨rfl, rfl⟩
end Go.Proofs.Ytpiocaomlifljaa
