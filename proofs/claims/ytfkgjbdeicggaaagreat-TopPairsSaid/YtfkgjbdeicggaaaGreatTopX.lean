/-
  Packing the index, walked: what it makes of a row of nodes.
-/
import Derived.Test.YtfkgjbdeicggaaaGreatTopTV
import Derived.Test.YtfkgjbdeicggaaaGreatTopM
namespace Go.Proofs.YtfkgjbdeicggaaaGreat
open Go.RowKit Go.Proofs.PlLex Go.Proofs.PlNet Go.Proofs.PlMap Go.Proofs.PlGeom Go.Proofs.PlTop
attribute [local go_sem] Oper.semAt_some

theorem wpListIn_append_lies {F : Fence} {n : Nat} {P : Program} (w : World) {ops : Array Oper} {rest : List Oper} {o : Oper} {a : Act} {Q : Exit → Act → World → Prop}
    (hg : o.guard = none) (s x : Operand) (t : TypeId) (hop : o.op = Op.call { callee := Callee.builtin Builtin.append, args := #[s, x], argTypes := #[t, t] })
    (base : Nat) (e : TypeId) (i : TypeInfo) (z : Value) (size bytes : Nat) (h1 : P.underlying t = some (.slice e)) (h2 : P.info? e = some i) (h3 : i.zero = some z) (h4 : i.size = size) (h5 : i.bytes = bytes) (h6 : z.cells.size = size) (h7 : 0 < size)
    (v : Value) (k : Nat) (xs : List Value) (hs : a.eval s = v) (hown : w.ownsRow base e size v k xs) (ad : Addr) (m c : Nat) (news : List Value) (hx : a.eval x = .slice (some ad) m c) (hn : news.length = m * size)
    (hc : ∀ j u, news[j]? = some u → w.cell? (ad.add j) = some u) (h1c : ∀ u ∈ news, u.oneCell' = true) (hm : 0 < m) (b1 : k + m ≤ maxLen) (b2 : (k + m) * bytes ≤ 140737488355328) (b3 : base ≤ w.heap.size) (H : Nat) (hH : w.heap.size = H)
    (hK : ∀ g cap w', w'.ownsRow base e size (.slice (some ⟨g, 0, none⟩) (k + m) cap) (k + m) (xs ++ news) → w.grownBy w' v.ownBlock → (v.ownBlock = some g ∨ g = H) → g < w'.heap.size → wpListIn F n P ops Q rest (a.put o.dst (.slice (some ⟨g, 0, none⟩) (k + m) cap)) w') :
    wpListIn F n P ops Q (o :: rest) a w := by
  refine wpListIn_plain hg fun K hK' => ?_
  obtain ⟨g, cap, w', hrun, r1, r2, r3, r4⟩ := run_append_lies (P := P) w t o.type base e i z size bytes h1 h2 h3 h4 h5 h6 h7 v k xs hown ad m c news hn hc h1c hm b1 b2 b3 H hH
  unfold Oper.wpIn
  refine ⟨?_, ?_⟩
  · simp [Oper.about, hop, resolve, Target.leads, Sem.run_pure]
  · rw [Oper.semAt_plain F _ _ (by rw [hop]; intro c hc'; cases hc')]
    simp [execOp, hop, resolve, invoke, builtin, hs, hx, hrun, Result.andThen]
    exact hK' _ _ (hK g cap w' r1 r2 r3 r4)
/-- A drawn region within a round is one outside of it: nothing there is deferred. -/
theorem uponIn_round {F : Fence} {n : Nat} {P : Program} {o : Oper} {a : Act} {next : Act → World → Prop} {Q : Exit → Act → World → Prop} (l : Nat) (r : Result Next) (h : o.uponIn F n P a next Q r) : o.uponIn (F.inRound l) n P a next Q r := by
  cases r with
  | ok x w => cases x <;> exact h
  | halt h' w => cases h' <;> exact h
def noDefer (ops : Array Oper) : Bool := ops.all fun o => match o.op with | .defer _ => false | _ => true
theorem wpAnyIn_round {F : Fence} {n : Nat} {P : Program} {md : Region.Mode} {ops : Array Oper} {Q : Exit → Act → World → Prop} (hro : F.round = none) (l : Nat) (hd : noDefer ops = true) : ∀ (fuel : Nat) (listed : Array Bool) (a : Act) (w : World), wpAnyIn F n P md ops Q fuel listed a w → wpAnyIn (F.inRound l) n P md ops Q fuel listed a w := by
  intro fuel
  induction fuel with
  | zero => exact fun _ _ _ h => h
  | succ fuel ih =>
    intro listed a w h
    refine ⟨h.1, fun i hi => ?_⟩
    have h1 := wpOpIn_mono (fun a' w' => ih _ a' w') (h.2 i hi)
    unfold wpOpIn at *
    cases ho : ops[i]? with
    | none => rw [ho] at h1; exact h1
    | some o =>
      rw [ho] at h1
      simp only at h1 ⊢
      split at h1
      · rename_i hw
        rw [if_pos hw]
        refine ⟨h1.1, uponIn_round l _ ?_⟩
        have e : o.semAt (F.inRound l).round a.eval = o.semAt F.round a.eval := by
          rw [hro]
          refine (Oper.semAt_some l _ _ fun c hc => ?_).trans rfl
          have h2 : (match o.op with | .defer _ => false | _ => true) = true := by
            have h3 := (Array.all_eq_true.1 hd) i (Array.getElem?_eq_some_iff.1 ho).1
            rw [(Array.getElem?_eq_some_iff.1 ho).2] at h3
            exact h3
          rw [hc] at h2
          cases h2
        rw [e]
        exact h1.2
      · rename_i hw
        rw [if_neg hw]
        exact h1
theorem region_round {F : Fence} {n id : Nat} {P : Program} {ops : Array Oper} {Q : Exit → Act → World → Prop} {a : Act} {w : World} (hro : F.round = none) (l : Nat) (hd : noDefer ops = true) (hm : P.follows .mixedOrders = true) (h : wpAnyIn F n P .any ops Q ops.size (Array.replicate ops.size false) a w.drew) : (Code.region id ops true).wpIn (F.inRound l) n P Q a w :=
  wpIn_region_any hm (wpAnyIn_round hro l hd _ _ _ _ h)
/-- The marks of loops that have ended. -/
def MarksD (Ds : List Nat) (W : World) : Prop := Ds.Nodup ∧ ∀ D ∈ Ds, W.heap[D]? = some (.deferred (some []))
def mkD (D : Nat) : Deferred := { target := .collected D, args := #[] }
theorem MarksD.kept {Ds : List Nat} {W W' : World} {row : Option Nat} (h : MarksD Ds W) (hg : W.grownBy W' row) (hr : ∀ r, row = some r → ∃ o : Obj, W.heap[r]? = some o ∧ o.isCells = true) : MarksD Ds W' :=
  ⟨h.1, fun D hD => (hg.block D (Array.getElem?_eq_some_iff.1 (h.2 D hD)).1 (fun e => by
    obtain ⟨o, h1, h2⟩ := hr D e.symm
    rw [h.2 D hD] at h1
    cases h1
    cases h2)).trans (h.2 D hD)⟩
theorem MarksD.own {Ds : List Nat} {N : Nat} {W W' : World} {row : Option Nat} (h : MarksD Ds W) (hN : ∀ D ∈ Ds, D < N) (hg : W.grownBy W' row) (hr : ∀ r, row = some r → N ≤ r) : MarksD Ds W' :=
  ⟨h.1, fun D hD => (hg.block D (Array.getElem?_eq_some_iff.1 (h.2 D hD)).1 (fun e => by have := hr D e.symm; have := hN D hD; omega)).trans (h.2 D hD)⟩
theorem leaves_marks {F : Fence} {n : Nat} {P : Program} {fn : Func} {tmps : Array Value} {R : Ending → World → Prop} (N : Nat) (I : World → Prop) (hI : ∀ W D, I W → N ≤ D → W.heap[D]? = some (.deferred (some [])) → I (W.putObj D (.deferred none))) (hend : ∀ W, I W → LeavesIn F n P fn tmps R [] .returning W) :
    ∀ (Ds : List Nat) (W : World), (∀ D ∈ Ds, N ≤ D) → MarksD Ds W → I W → LeavesInM F n P fn tmps R (Ds.map mkD) .returning W := by
  intro Ds
  induction Ds with
  | nil => exact fun W _ _ h => hend W h
  | cons D Ds ih =>
    intro W hlo hm h
    have hD := hm.2 D (List.mem_cons_self ..)
    refine ⟨by simp, .inl ⟨D, _, rfl, run_takeDeferred hD, ih _ (fun D' h' => hlo D' (List.mem_cons_of_mem _ h')) ⟨(List.nodup_cons.1 hm.1).2, fun D' hD' => ?_⟩ (hI W D h (hlo D (List.mem_cons_self ..)) hD)⟩⟩
    have hne : D' ≠ D := fun e => (List.nodup_cons.1 hm.1).1 (e ▸ hD')
    exact ((grownBy_putObj' W D (.deferred none)).block D' (Array.getElem?_eq_some_iff.1 (hm.2 D' (List.mem_cons_of_mem _ hD'))).1 (fun e => hne (by cases e; rfl))).trans (hm.2 D' (List.mem_cons_of_mem _ hD'))
/-- Where packing stands between two rounds. -/
structure PkL (w00 : World) (L0 : List Nd) (Ds : List Nat) (d : Nat) (L : List Nd) (lv : Value) (W : World) : Prop where
  marks : MarksD Ds W
  row : W.ownsRow w00.heap.size 146 1 lv L.length (L.map ndP)
  below : Below w00.heap.size w00 W
  nodes : NodesAt W (fun b => lv.ownBlock = some b) d L
  perm : (leavesN L).Perm (leavesN L0)
  ne : 1 ≤ L.length
  few : L.length ≤ 1000
  lo : ∀ D ∈ Ds, w00.heap.size ≤ D
theorem PkL.sorted {w00 : World} {L0 : List Nd} {Ds : List Nat} {d : Nat} {L C : List Nd} {g cap : Nat} {W W' : World} (h : PkL w00 L0 Ds d L (.slice (some ⟨g, 0, none⟩) L.length cap) W) (hc : C.Perm (subL L 0 L.length)) (hr : W'.ownsRow w00.heap.size 146 1 (.slice (some ⟨g, 0, none⟩) L.length cap) L.length ((putS L 0 C).map ndP)) (hg : W.grownBy W' (some g)) :
    PkL w00 L0 Ds d (putS L 0 C) (.slice (some ⟨g, 0, none⟩) L.length cap) W' ∧ (putS L 0 C).length = L.length := by
  have hp := putS_perm L (by omega) hc
  have hl := hp.length_eq
  obtain ⟨h1, cur, hcur⟩ := own_block h.row rfl
  refine ⟨⟨h.marks.kept hg (fun r e => by cases e; exact ⟨_, hcur, rfl⟩), by rw [hl]; exact hr, below_row h.below hg (fun r e => by cases e; exact h1), (h.nodes.kept hg (fun r e => by cases e; rfl)).perm hp, (leavesN_perm hp).trans h.perm, by rw [hl]; exact h.ne, by rw [hl]; exact h.few, h.lo⟩, hl⟩
/-- The round's memory, as it begins. -/
theorem PkL.begin {w00 : World} {L0 : List Nd} {Ds : List Nat} {d : Nat} {L : List Nd} {g cap : Nat} {W : World} (h : PkL w00 L0 Ds d L (.slice (some ⟨g, 0, none⟩) L.length cap) W) :
    PkI w00 d g cap W.heap.size (.slice none 0 0) (fun b => b = g ∨ b = W.heap.size) L [] (W.alloc (.cells #[.slice none 0 0] 153)) ∧ MarksD Ds (W.alloc (.cells #[.slice none 0 0] 153)) := by
  have hb : Below W.heap.size W (W.alloc (.cells #[.slice none 0 0] 153)) := (Below.refl _ _).alloc (Nat.le_refl _) _
  refine ⟨⟨bto h.below hb, own_below h.row hb, heap_alloc_new _ _, World.ownsRow_nil _ _ _ _, (fun e => by cases e), h.below.size, .inl rfl, .inr rfl, (fun b e => by cases e), NodesAt.below (h.nodes.more (fun b hlt hY => ?_)) hb, fun x hx => (by cases hx)⟩, h.marks.kept (bgrow hb) (fun r e => by cases e)⟩
  rcases hY with e | e
  · rw [e]; rfl
  · omega
theorem keepsO_below {W W' : World} (hb : Below W.heap.size W W') : KeepsOthers W W' := ⟨hb.size, fun k _ hk _ => (hb.block k (Array.getElem?_eq_some_iff.1 hk).1).trans hk⟩
theorem Ck.own {B1 B2 g o n m c : Nat} {W W' : World} {row : Option Nat} (h : Ck B1 B2 g o n m c W) (hg : W.grownBy W' row) (hr : ∀ r, row = some r → ∃ o : Obj, W.heap[r]? = some o ∧ o.isCells = false) : Ck B1 B2 g o n m c W' := ⟨blk_grown h.s hg hr, blk_grown h.n hg hr⟩
/-- A row of nodes lies in none of the iterator's boxes. -/
theorem Ck.row_ne {B1 B2 g o n m c B sz k r : Nat} {W : World} {v : Value} {xs : List Value} (h : Ck B1 B2 g o n m c W) (hr : W.ownsRow B 146 sz v k xs) (e : v.ownBlock = some r) : r ≠ B1 ∧ r ≠ B2 := by
  obtain ⟨_, cur, hc⟩ := own_block hr e
  refine ⟨fun e2 => ?_, fun e2 => ?_⟩
  · rw [e2, h.s] at hc; cases hc
  · rw [e2, h.n] at hc; cases hc
theorem Ck.blk_ne {B1 B2 g o n m c r : Nat} {W : World} {cs : Array Value} {t : TypeId} {f : Nat × Nat} (h : Ck B1 B2 g o n m c W) (hb : W.heap[r]? = some (.cells cs t f)) (h1 : t = 155 ∨ (t = 153 ∧ r < B1 ∧ r < B2)) : r ≠ B1 ∧ r ≠ B2 := by
  rcases h1 with rfl | ⟨rfl, h1, h2⟩
  · refine ⟨fun e2 => ?_, fun e2 => ?_⟩
    · rw [e2, h.s] at hb; cases hb
    · rw [e2, h.n] at hb; cases hb
  · omega
/-- What the outer loop of a round keeps. -/
structure OutI (w00 : World) (d g cap Bn B1 : Nat) (L2 : List Nd) (s : Nat) (Ds : List Nat) (pre : List Nat) (W : World) : Prop where
  marks : MarksD Ds W
  ck : Ck B1 (B1 + 1) g 0 s L2.length cap W
  mem : ∃ L' M nv X, PkI w00 d g cap Bn nv X L' M W ∧ L'.Perm L2 ∧ M.length ≤ pre.length * 1000 ∧ (PlTop.Good pre → StripR L' M s pre.length)
theorem OutI.own {w00 : World} {d g cap Bn B1 : Nat} {L2 : List Nd} {s : Nat} {Ds : List Nat} {pre : List Nat} {W W' : World} {row : Option Nat} {N : Nat} (h : OutI w00 d g cap Bn B1 L2 s Ds pre W) (hN : w00.heap.size ≤ N) (hD : ∀ D ∈ Ds, D < N) (hg : W.grownBy W' row) (hr : ∀ r, row = some r → N ≤ r ∧ ∃ o : Obj, W.heap[r]? = some o ∧ o.isCells = false) : OutI w00 d g cap Bn B1 L2 s Ds pre W' := by
  obtain ⟨h1, h4, L', M, nv, X, h2, h3⟩ := h
  exact ⟨h1.own hD hg (fun r e => (hr r e).1), h4.own hg (fun r e => (hr r e).2), L', M, nv, X, h2.own hN hg hr, h3⟩
theorem outI_start {w00 : World} {d g cap Bn B1 : Nat} {L2 : List Nd} {s : Nat} {Ds : List Nat} {X : Nat → Prop} {W W' : World} (h : PkI w00 d g cap Bn (.slice none 0 0) X L2 [] W) (hm : MarksD Ds W) (hb : Below W.heap.size W W') (hc : Ck B1 (B1 + 1) g 0 s L2.length cap W') : OutI w00 d g cap Bn B1 L2 s Ds [] W' :=
  ⟨hm.kept (bgrow hb) (fun r e => by cases e), hc, L2, [], _, X, h.lift hb, List.Perm.refl _, by simp, fun _ => stripR_zero L2 s⟩
/-- What the inner loop of a round keeps: W is the world in which the outer loop's round began. -/
structure InI (w00 : World) (d g cap Bn B1 B3 : Nat) (L' M0 : List Nd) (s n o m n0 : Nat) (Ds : List Nat) (W : World) (pre : List Nat) (W' : World) : Prop where
  marks : MarksD Ds W'
  ck : Ck B1 (B1 + 1) g 0 s n cap W'
  ck2 : Ck B3 (B3 + 1) g o 8 m m W'
  kb : Kb B1 (B1 + 1) W W'
  kf : KeepsFrom n0 W W'
  mem : ∃ Ns nv X, PkI w00 d g cap Bn nv X L' (M0 ++ Ns) W' ∧ Ns.length = pre.length ∧ (PlTop.Good pre → PartR (subL L' o m) Ns pre.length)
theorem InI.own {w00 : World} {d g cap Bn B1 B3 : Nat} {L' M0 : List Nd} {s n o m n0 : Nat} {Ds : List Nat} {W : World} {pre : List Nat} {X Y : World} {row : Option Nat} {N : Nat} (h : InI w00 d g cap Bn B1 B3 L' M0 s n o m n0 Ds W pre X) (hN : w00.heap.size ≤ N) (hW : W.heap.size ≤ N) (hD : ∀ D ∈ Ds, D < N) (hg : X.grownBy Y row) (hr : ∀ r, row = some r → N ≤ r ∧ ∃ o : Obj, X.heap[r]? = some o ∧ o.isCells = false) : InI w00 d g cap Bn B1 B3 L' M0 s n o m n0 Ds W pre Y := by
  obtain ⟨h1, h2, h3, h4, h5, Ns, nv, X', h6, h7⟩ := h
  exact ⟨h1.own hD hg (fun r e => (hr r e).1), h2.own hg (fun r e => (hr r e).2), h3.own hg (fun r e => (hr r e).2), kbOwn B1 (B1 + 1) N W () X Y row h4 hg hr, ownFrom_keepsFrom (β := Unit) hW () X Y row h5 hg hr, Ns, nv, X', h6.own hN hg hr, h7⟩
/-- The inner loop begins: the part has been sorted, the iterator over its parts made. -/
theorem inI_start {w00 : World} {d g cap Bn B1 : Nat} {L' M : List Nd} {s n o m n0 : Nat} {Ds : List Nat} {nv : Value} {X : Nat → Prop} {W W1 W2 : World} {C : List Nd} (hm : MarksD Ds W) (hc : Ck B1 (B1 + 1) g 0 s n cap W) (h : PkI w00 d g cap Bn nv X L' M W) (ho : o + m ≤ L'.length) (hC : C.Perm (subL L' o m)) (hr : W1.ownsRow w00.heap.size 146 1 (.slice (some ⟨g, 0, none⟩) L'.length cap) L'.length ((putS L' o C).map ndP)) (hg : W.grownBy W1 (some g)) (hb : Below W1.heap.size W1 W2) (hc2 : Ck W1.heap.size (W1.heap.size + 1) g o 8 m m W2) :
    InI w00 d g cap Bn B1 W1.heap.size (putS L' o C) M s n o m n0 Ds W [] W2 := by
  obtain ⟨_, cur, hcur⟩ := own_block h.row rfl
  have hgb := hc.row_ne h.row rfl
  refine ⟨(hm.kept hg (fun r e => by cases e; exact ⟨_, hcur, rfl⟩)).kept (bgrow hb) (fun r e => by cases e), (hc.kept (Kb.grown hg (fun r e => by cases e; exact hgb))).kept (Kb.below hb), hc2, (Kb.grown hg (fun r e => by cases e; exact hgb)).trans (Kb.below hb), ((KeepsOthers.of_grownBy hg (fun j o e ho => by cases e; rw [hcur] at ho; cases ho; rfl)).trans (keepsO_below hb)).from _, [], nv, X, ?_, rfl, fun _ => partR_zero _⟩
  rw [List.append_nil]
  exact (h.sort ho hC hr hg).lift hb
/-- The outer loop's round ends. -/
theorem inI_end {w00 : World} {d g cap Bn B1 B3 : Nat} {L2 L' L'' M C : List Nd} {s n o m n0 : Nat} {Ds : List Nat} {W W' : World} {pre pre' : List Nat} {x : Nat} (hn : L2.length = n) (hs8 : ∃ t, s = 8 * t) (h : InI w00 d g cap Bn B1 B3 L'' M s n o m n0 Ds W pre' W') (hpre : pre' = List.range (cntC 8 m)) (hL : L'' = putS L' o C) (hC : C.Perm (subL L' o m)) (hp : L'.Perm L2) (ho : o = x * s) (hm : m = min s (n - o)) (hlt : o < n) (hn1000 : n ≤ 1000) (hM : M.length ≤ pre.length * 1000) (hst : PlTop.Good pre → StripR L' M s pre.length) :
    KeepsFrom n0 W W' ∧ Kb B1 (B1 + 1) W W' ∧ OutI w00 d g cap Bn B1 L2 s Ds (pre ++ [x]) W' := by
  obtain ⟨h1, h2, h3, h4, h5, Ns, nv, X, h6, h7, h8⟩ := h
  have hl : L'.length = n := by rw [hp.length_eq]; exact hn
  have hcl : C.length = m := by rw [hC.length_eq, subL_len L' (by omega)]
  have hgood : PlTop.Good pre' := by rw [hpre]; exact good_range _
  have hsub : subL L'' o m = C := by rw [hL, ← hcl]; exact putS_sub L' o C (by omega)
  have hpt := h8 hgood
  rw [hsub, hpre, List.length_range, ← hcl] at hpt
  obtain ⟨e1, e2⟩ := partR_end hpt
  refine ⟨h5, h4, h1, by rw [hn]; exact h2, L'', M ++ Ns, nv, X, h6, ?_, ?_, fun hg => ?_⟩
  · rw [hL]; exact (putS_perm L' (by omega) hC).trans hp
  · rw [List.length_append, List.length_append, List.length_singleton, h7, hpre, List.length_range]
    have : cntC 8 m ≤ 1000 := by unfold cntC; omega
    omega
  · obtain ⟨g1, g2⟩ := good_snoc hg
    obtain ⟨t, ht⟩ := hs8
    have hk := stripR_step (C := C) (M := Ns) (hst g1) ht (by rw [hl, ← g2, ← ho]; exact hlt) (by rw [hcl, hm, hl, ← g2, ho]) e1 (by rw [e2])
    rw [hL, List.length_append, List.length_singleton, ho, g2]
    exact hk
/-- The innermost loop: the new node's box grows around its parts. -/
structure UpI (W0 : World) (B gu p cp : Nat) (x0 : Nd) (C : List Nd) (k : Nat) (W : World) : Prop where
  bel : Below W0.heap.size W0 W
  ge : W0.heap.size ≤ gu ∧ p ≠ gu ∧ W0.heap.size ≤ p
  up : W.heap[gu]? = some (.cells (ndC (aroundL x0.bx ((C.take k).map Nd.bx)) ⟨#[]⟩ (.slice (some ⟨p, 0, none⟩) C.length cp)) 155 (0, 0))
  par : W.ownsRow B 146 1 (.slice (some ⟨p, 0, none⟩) C.length cp) C.length (C.map ndP)
theorem upI_start {W0 w5 : World} {p cp : Nat} {x0 : Nd} {C : List Nd} (hp : W0.heap.size ≤ p) (hr : w5.ownsRow W0.heap.size 146 1 (.slice (some ⟨p, 0, none⟩) C.length cp) C.length (C.map ndP)) (hb : Below W0.heap.size W0 w5) :
    UpI W0 W0.heap.size w5.heap.size p cp x0 C 0 (w5.alloc (.cells #[.int .i64 x0.bx.x0, .int .i64 x0.bx.y0, .int .i64 x0.bx.x1, .int .i64 x0.bx.y1, .string ⟨#[]⟩, .slice (some ⟨p, 0, none⟩) C.length cp] 155)) := by
  have hba : Below w5.heap.size w5 (w5.alloc (.cells #[.int .i64 x0.bx.x0, .int .i64 x0.bx.y0, .int .i64 x0.bx.x1, .int .i64 x0.bx.y1, .string ⟨#[]⟩, .slice (some ⟨p, 0, none⟩) C.length cp] 155)) := (Below.refl _ _).alloc (Nat.le_refl _) _
  obtain ⟨_, cur, hc⟩ := own_block hr rfl
  have : p < w5.heap.size := lt_of_block hc
  exact ⟨bto hb hba, ⟨hb.size, by omega, hp⟩, heap_alloc_new _ _, own_below hr hba⟩
theorem UpI.step {W0 : World} {B gu p cp : Nat} {x0 z : Nd} {C : List Nd} {k : Nat} {W W' : World} (h : UpI W0 B gu p cp x0 C k W) (hz : C[k]? = some z) (hb : Below W.heap.size W W') :
    UpI W0 B gu p cp x0 C (k + 1) (((((W'.setCell ⟨gu, 0, none⟩ (.int .i64 (aroundX (aroundL x0.bx ((C.take k).map Nd.bx)) z.bx).x0)).setCell ⟨gu, 1, none⟩ (.int .i64 (aroundX (aroundL x0.bx ((C.take k).map Nd.bx)) z.bx).y0)).setCell ⟨gu, 2, none⟩ (.int .i64 (aroundX (aroundL x0.bx ((C.take k).map Nd.bx)) z.bx).x1)).setCell ⟨gu, 3, none⟩ (.int .i64 (aroundX (aroundL x0.bx ((C.take k).map Nd.bx)) z.bx).y1))) := by
  have hone : ∀ (W : World) (i : Nat) (u : Value), W.grownBy (W.setCell ⟨gu, i, none⟩ u) (some gu) := fun W i u => ⟨rfl, rfl, rfl, by simp, fun k _ hne => Below.heap_setCell W ⟨gu, i, none⟩ u k (fun e => hne (by rw [e]))⟩
  have hg := gby_trans (gby_trans (gby_trans (hone W' 0 (.int .i64 (aroundX (aroundL x0.bx ((C.take k).map Nd.bx)) z.bx).x0)) (hone _ 1 (.int .i64 (aroundX (aroundL x0.bx ((C.take k).map Nd.bx)) z.bx).y0))) (hone _ 2 (.int .i64 (aroundX (aroundL x0.bx ((C.take k).map Nd.bx)) z.bx).x1))) (hone _ 3 (.int .i64 (aroundX (aroundL x0.bx ((C.take k).map Nd.bx)) z.bx).y1))
  have hu := blkB hb h.up
  have hpr := own_below h.par hb
  refine ⟨below_row (bto h.bel hb) hg (fun r e => by cases e; exact h.ge.1), h.ge, ?_, own_kept hpr hg (fun b e1 e2 => h.ge.2.1 ((Option.some.inj e1).trans (Option.some.inj e2).symm))⟩
  have e1 : aroundL x0.bx ((C.take (k + 1)).map Nd.bx) = aroundX (aroundL x0.bx ((C.take k).map Nd.bx)) z.bx := by
    rw [List.take_add_one, hz, List.map_append]
    exact aroundL_snoc _ _ _
  rw [e1]
  unfold ndC at hu ⊢
  rw [Sort.setCell_eq, Sort.setCell_eq, Sort.setCell_eq, Sort.setCell_eq]
  simp [Sort.mapBlock, Array.getElem?_modify, hu, Sort.onCells]
theorem UpI.cells {W0 : World} {B gu p cp : Nat} {x0 : Nd} {C : List Nd} {k : Nat} {W : World} (h : UpI W0 B gu p cp x0 C k W) :
    (W.cell? ⟨gu, 0, none⟩ = some (.int .i64 (aroundL x0.bx ((C.take k).map Nd.bx)).x0) ∧ W.cell? ⟨gu, 1, none⟩ = some (.int .i64 (aroundL x0.bx ((C.take k).map Nd.bx)).y0) ∧ W.cell? ⟨gu, 2, none⟩ = some (.int .i64 (aroundL x0.bx ((C.take k).map Nd.bx)).x1) ∧ W.cell? ⟨gu, 3, none⟩ = some (.int .i64 (aroundL x0.bx ((C.take k).map Nd.bx)).y1)) ∧ ∀ i, W.frozen? ⟨gu, i, none⟩ = false := by
  obtain ⟨c0, c1, c2, c3, _, _⟩ := box6n h.up
  exact ⟨⟨c0, c1, c2, c3⟩, fun i => frozen_of_row W gu i _ _ h.up⟩
/-- The new node. -/
theorem UpI.node {W0 : World} {B gu p cp d : Nat} {x0 : Nd} {C C3 : List Nd} {W : World} {X Y : Nat → Prop} (h : UpI W0 B gu p cp x0 C C.length W) (hY : ∀ b, Y b → b < W0.heap.size) (hXY : ∀ b, Y b → X b) (hC : C = x0 :: C3) (hm : ∀ z ∈ C, NodeAt W0 X d z.g z.bx z.ls) :
    NodeAt W Y (d + 1) gu (aroundL x0.bx (C.map Nd.bx)) (leavesN C) := by
  have hup := h.up
  rw [List.take_length] at hup
  have hin : ∀ z ∈ C, within z.bx (aroundL x0.bx (C.map Nd.bx)) := fun z hz => aroundL_mem _ _ _ (List.mem_map.2 ⟨z, hz, rfl⟩)
  have hpl : p < W.heap.size := by
    obtain ⟨_, cur, hc⟩ := own_block h.par rfl
    exact lt_of_block hc
  refine ⟨fun hy => by have := hY _ hy; have := h.ge.1; omega, aroundL_ok _ _ (hm x0 (by rw [hC]; exact List.mem_cons_self ..)).ok (fun b hb => by
    obtain ⟨z, hz, rfl⟩ := List.mem_map.1 hb
    exact (hm z hz).ok), p, cp, C, hup, fun hy => by have := hY _ hy; have := h.ge.2.2; omega, hpl, by rw [hC]; simp, fun i z hz => ?_, fun z hz => ((hm z hz).more (fun b _ hb => hXY b hb)).kept (bgrow h.bel) (fun r e => by cases e), rfl, fun y hy => ?_⟩
  · have h1 := h.par.cells (g := p) rfl i (ndP z) (by rw [List.getElem?_map, hz]; rfl)
    have e1 : (⟨p, 0, none⟩ : Addr).add i = ⟨p, i, none⟩ := by simp only [Addr.add, Nat.zero_add]; split <;> simp_all
    rw [← e1]
    exact h1
  · unfold leavesN at hy
    obtain ⟨z, hz, hy⟩ := List.mem_flatMap.1 hy
    exact within_trans ((hm z hz).within y hy) (hin z hz)
theorem subL_subL {α : Type} (l : List α) (o m k e : Nat) : subL (subL l o m) k e = subL l (o + k) (min e (m - k)) := by
  unfold subL
  rw [List.drop_take, List.take_take, List.drop_drop]
/-- The inner loop's round ends. -/
theorem inI_push {w00 : World} {d g cap Bn B1 B3 : Nat} {L'' M Ns MN : List Nd} {s n o m n0 n1 : Nat} {Ds : List Nat} {W W' Wa w9 : World} {pre' : List Nat} {y : Nat} {nv : Value} {Y : Nat → Prop} {x : Nd} {g9 cap9 : Nat}
    (hMN : MN = M ++ Ns) (h : MarksD Ds W' ∧ Ck B1 (B1 + 1) g 0 s n cap W' ∧ Ck B3 (B3 + 1) g o 8 m m W' ∧ Kb B1 (B1 + 1) W W' ∧ KeepsFrom n0 W W' ∧ Ns.length = pre'.length ∧ (PlTop.Good pre' → PartR (subL L'' o m) Ns pre'.length)) (hb : Below W'.heap.size W' Wa) (hpk : PkI w00 d g cap Bn nv Y L'' MN Wa) (hx : NodeAt Wa Y (d + 1) x.g x.bx x.ls)
    (hown : w9.ownsRow w00.heap.size 146 1 (.slice (some ⟨g9, 0, none⟩) (MN.length + 1) cap9) (MN.length + 1) (MN.map ndP ++ [ndP x])) (hg : Wa.grownBy w9 nv.ownBlock) (hat : nv.ownBlock = some g9 ∨ g9 = Wa.heap.size) (hls : PlTop.Good (pre' ++ [y]) → x.ls = leavesN (subL (subL L'' o m) (pre'.length * 8) 8)) (hB : Bn < B1 ∧ Bn < B3) :
    KeepsFrom n1 W' (w9.setCell ⟨Bn, 0, none⟩ (.slice (some ⟨g9, 0, none⟩) (MN.length + 1) cap9)) ∧ Kb B3 (B3 + 1) W' (w9.setCell ⟨Bn, 0, none⟩ (.slice (some ⟨g9, 0, none⟩) (MN.length + 1) cap9)) ∧ InI w00 d g cap Bn B1 B3 L'' M s n o m n0 Ds W (pre' ++ [y]) (w9.setCell ⟨Bn, 0, none⟩ (.slice (some ⟨g9, 0, none⟩) (MN.length + 1) cap9)) := by
  subst hMN
  obtain ⟨h1, h2, h3, h4, h5, h6, h7⟩ := h
  have hpush := hpk.push hx hown hg (fun b e => by
    have e2 : g9 = b := Option.some.inj e
    rw [← e2]
    exact hat.imp id (fun e => by omega))
  obtain ⟨c1, c2, c3, c4, c5⟩ := hpk.gb
  have hs : ∀ v : Value, w9.grownBy (w9.setCell ⟨Bn, 0, none⟩ v) (some Bn) := fun v => ⟨rfl, rfl, rfl, by simp, fun k _ hne => Below.heap_setCell w9 ⟨Bn, 0, none⟩ v k (fun e => hne (by rw [e]))⟩
  have k1a := h2.kept (Kb.below hb)
  have k3a := h3.kept (Kb.below hb)
  have kb1 : Kb B1 (B1 + 1) W' (w9.setCell ⟨Bn, 0, none⟩ (.slice (some ⟨g9, 0, none⟩) ((M ++ Ns).length + 1) cap9)) := ((Kb.below hb).trans (Kb.grown hg (fun r e => k1a.row_ne hpk.nrow e))).trans (Kb.grown (hs _) (fun r e => by cases e; omega))
  have kb3 : Kb B3 (B3 + 1) W' (w9.setCell ⟨Bn, 0, none⟩ (.slice (some ⟨g9, 0, none⟩) ((M ++ Ns).length + 1) cap9)) := ((Kb.below hb).trans (Kb.grown hg (fun r e => k3a.row_ne hpk.nrow e))).trans (Kb.grown (hs _) (fun r e => by cases e; omega))
  have hko : KeepsOthers W' (w9.setCell ⟨Bn, 0, none⟩ (.slice (some ⟨g9, 0, none⟩) ((M ++ Ns).length + 1) cap9)) := ((keepsO_below hb).trans (KeepsOthers.of_grownBy hg (fun j o' e ho => by
    obtain ⟨_, cur, hc⟩ := own_block hpk.nrow e
    rw [hc] at ho
    cases ho
    rfl))).trans (KeepsOthers.setCell _ _ _)
  have hmk : MarksD Ds (w9.setCell ⟨Bn, 0, none⟩ (.slice (some ⟨g9, 0, none⟩) ((M ++ Ns).length + 1) cap9)) := ⟨h1.1, fun D hD => hko.same D _ (h1.2 D hD) rfl⟩
  refine ⟨hko.from _, kb3, hmk, h2.kept kb1, h3.kept kb3, h4.trans kb1, h5.trans (hko.from _), Ns ++ [x], _, _, by rw [← List.append_assoc]; exact hpush, by rw [List.length_append, List.length_append, h6]; rfl, fun hgd => ?_⟩
  obtain ⟨g1, g2⟩ := good_snoc hgd
  rw [List.length_append, List.length_singleton]
  exact partR_step (h7 g1) (hls hgd)
def lenV : Value → Nat
  | .slice _ n _ => n
  | _ => 0
theorem row_at {W : World} {B n : Nat} {t : TypeId} {v : Value} {xs : List Value} (h : W.ownsRow B t 1 v n xs) (hn : 1 ≤ n) : ∃ g cap, v = .slice (some ⟨g, 0, none⟩) n cap ∧ n ≤ cap := by
  rcases h.2 with ⟨_, h0⟩ | ⟨g, cap, cur, hv, _, _, hc, _⟩
  · omega
  · exact ⟨g, cap, hv, hc⟩
theorem upN_pos {n : Nat} (h : 1 ≤ n) : 1 ≤ upN n := by unfold upN; omega
/-- The next round of packing. -/
theorem OutI.next {w00 : World} {d g cap Bn B1 : Nat} {L0 L2 : List Nd} {s n D : Nat} {Ds : List Nat} {W : World} (h : OutI w00 d g cap Bn B1 L2 s Ds (List.range (cntC s n)) W) (hn : L2.length = n) (hs : 1 ≤ s) (hp : (leavesN L2).Perm (leavesN L0)) (hD : W.heap[D]? = some (.deferred (some []))) (hDn : D ∉ Ds) (hlo : ∀ D' ∈ D :: Ds, w00.heap.size ≤ D') (h2 : 2 ≤ n) (h3 : n ≤ 1000) :
    ∃ M nv, W.heap[Bn]? = some (.cells #[nv] 153 (0, 0)) ∧ PkL w00 L0 (D :: Ds) (d + 1) M nv W ∧ M.length < n ∧ lenV nv = M.length := by
  obtain ⟨h1, _, L', M, nv, X, h4, h5, _, h6⟩ := h
  have hl : L'.length = n := by rw [h5.length_eq]; exact hn
  have h7 := h6 (good_range _)
  rw [List.length_range, ← hl] at h7
  obtain ⟨e1, e2⟩ := stripR_end hs h7
  rw [hl] at e2
  have e3 := upN_less h2
  have e4 := upN_pos (n := n) (by omega)
  obtain ⟨g', cap', hv, _⟩ := row_at h4.nrow (by omega)
  refine ⟨M, nv, h4.nx, ⟨⟨List.nodup_cons.2 ⟨hDn, h1.1⟩, fun D' hD' => ?_⟩, h4.nrow, h4.below, h4.new.more (fun b _ hb => h4.xn b hb), e1.trans ((leavesN_perm h5).trans hp), by omega, by omega, hlo⟩, by omega, by rw [hv]; rfl⟩
  rcases List.mem_cons.1 hD' with e | e
  · rw [e]; exact hD
  · exact h1.2 D' e
set_option maxRecDepth 100000 in
set_option maxHeartbeats 4000000 in
theorem chunk_new (g o n m c : Nat) (hn : 1 ≤ n) (W : World) :
    Calls Tryz.prog 176 #[.slice (some ⟨g, o, none⟩) m c, .int .i64 (n : Nat)] W fun e w' => e = .returned (.func (.func 231) #[] #[.pointer (some ⟨W.heap.size, 0, none⟩), .pointer (some ⟨W.heap.size + 1, 0, none⟩)]) ∧ Below W.heap.size W w' ∧ w'.heap.size = W.heap.size + 2 ∧ Ck W.heap.size (W.heap.size + 1) g o n m c w' := by
  have h1 : ¬ ((n : Nat) : Int) < 1 := by omega
  have hmf : ∀ (fn : Fn) (first cap : Array Value) (w : World), (Instr.makeFunc fn first cap).run Tryz.prog w = .ok (.func fn first cap) w := fun _ _ _ _ => rfl
  obtain ⟨w2, hw2⟩ : ∃ w2, (W.alloc (.cells #[.slice (some ⟨g, o, none⟩) m c] 153)).alloc (.cells #[.int .i64 (n : Nat)] 3) = w2 := ⟨_, rfl⟩
  have HB : Hid (Below W.heap.size W w2) := hide (by rw [← hw2]; exact ((Below.refl _ _).alloc (Nat.le_refl _) _).alloc (by simp) _)
  have HZ : Hid (w2.heap.size = W.heap.size + 2) := hide (by rw [← hw2]; simp)
  have HC : Hid (Ck W.heap.size (W.heap.size + 1) g o n m c w2) := hide (by
    rw [← hw2]
    refine ⟨blkB ((Below.refl _ _).alloc (Nat.le_refl _) _) (heap_alloc_new W _), ?_⟩
    have h9 := heap_alloc_new (W.alloc (.cells #[.slice (some ⟨g, o, none⟩) m c] 153)) (.cells #[.int .i64 (n : Nat)] 3)
    rw [World.size_alloc] at h9
    exact h9)
  rw [← hw2] at HB HZ HC
  clear hw2
  go_enter Tryz.func176, Tryz.ntmps176
  go_wp2_with fail
  go_ret
  exact ⟨rfl, HB.out, HZ.out, HC.out⟩
set_option maxRecDepth 100000 in
set_option maxHeartbeats 16000000 in
theorem pack_any (dp : Nat) (L : List Nd) (lv : Value) (w00 W : World) (h : W.ownsRow w00.heap.size 146 1 lv L.length (L.map ndP)) (hb : Below w00.heap.size w00 W) (hn : NodesAt W (fun b => lv.ownBlock = some b) dp L) (hne : 1 ≤ L.length) (hlen : L.length ≤ 1000) :
    Calls Tryz.prog 123 #[lv] W fun e w' => ∃ (d : Nat) (x : Nd), e = .returned (ndP x) ∧ NodeAt w' (fun _ => False) d x.g x.bx x.ls ∧ x.ls.Perm (leavesN L) ∧ Below w00.heap.size w00 w' := by
  obtain ⟨i0, hi0, hz0, hz1, hz2⟩ := info_parts3 info_node
  have HI0 := hide hi0
  have HZ0 := hide hz0
  have HZ1 := hide hz1
  have HZ2 := hide hz2
  clear hi0 hz0 hz1 hz2
  have HP : Hid (PkL w00 L [] dp L lv W) := hide ⟨⟨List.nodup_nil, fun D hD => (by cases hD)⟩, h, hb, hn, List.Perm.refl _, hne, hlen, fun D hD => (by cases hD)⟩
  clear h hb hn hne hlen
  refine (callsIn_wide (n := 20)).1 ?_
  refine callsIn_of_wp_marks Tryz.func123 rfl trivial ?_ rfl
  simp only [Tryz.ntmps123, List.size_toArray, List.length_cons, List.length_nil, Nat.reduceAdd, Nat.reduceSub, Array.replicate_succ, Array.replicate_zero, List.push_toArray, List.append_toArray, List.nil_append, List.cons_append]
  have hf1 : Fence.wide.fn 174 := trivial
  have hf2 : Fence.wide.fn 176 := trivial
  have hf3 : Fence.wide.fn 178 := trivial
  have hf4 : Fence.wide.fn 179 := trivial
  gi_wp2
  refine wpIn_loop (fun a W => ∃ (Ds : List Nat) (d : Nat) (L1 : List Nd) (lv1 u3 u4 u10 u11 u12 u13 u14 u15 u16 u17 u18 u19 u20 u21 u22 u23 u24 u25 u26 u66 : Value), a = { tmps := #[lv1, undef, Value.pointer none, u3, u4, undef, undef, undef, undef, undef, u10, u11, u12, u13, u14, u15, u16, u17, u18, u19, u20, u21, u22, u23, u24, u25, u26, undef, undef, undef, undef, undef, undef, undef, undef, undef, undef, undef, undef, undef, undef, undef, undef, undef, undef, undef, undef, undef, undef, undef, undef, undef, undef, undef, undef, undef, undef, undef, undef, undef, undef, undef, undef, undef, undef, undef, u66, undef, undef, undef, undef, undef, undef], defers := Ds.map mkD } ∧ Hid (PkL w00 L Ds d L1 lv1 W)) (fun a _ => lenV (a.tmps.getD 0 undef)) ⟨[], dp, L, lv, _, _, _, _, _, _, _, _, _, _, _, _, _, _, _, _, _, _, _, _, rfl, HP⟩ ?_
  clear HP
  rintro a w ⟨Ds, d, L1, lv1, u3, u4, u10, u11, u12, u13, u14, u15, u16, u17, u18, u19, u20, u21, u22, u23, u24, u25, u26, u66, rfl, hp⟩
  obtain ⟨g, cap, hlv, hcap⟩ := row_at hp.out.row hp.out.ne
  subst hlv
  have hne := hp.out.ne
  have hfew := hp.out.few
  by_cases hlt : 1 < L1.length
  · have k1 : (1 : Int) < ((L1.length : Nat) : Int) := by omega
    have HS := hide (sort_nodes 175 cfX (.inl rfl) (enters_of Tryz.func175 (by kernel_rfl) rfl) less_x (fun b => (Value.slice (some ⟨g, 0, none⟩) L1.length cap).ownBlock = some b) d L1 w00.heap.size g cap cap 0 L1.length w hp.out.row rfl hp.out.nodes (by omega) (by omega) (by omega))
    have HP := hide hp.out
    obtain ⟨n, hn⟩ : ∃ n, L1.length = n := ⟨_, rfl⟩
    have HN := hide hn
    rw [hn] at hcap hlt k1 hne hfew
    clear hp
    rw [hn] at HS ⊢
    clear hn
    gi_wp2_with (gi_at_call 174; refine (callsIn_wide.2 HS.out).mono ?_; rintro e w1 ⟨rfl, C, hpc, hr1, hg1⟩)
    rw [← HN.out] at hr1
    obtain ⟨hp1, hl1⟩ := HP.out.sorted (by rw [HN.out]; exact hpc) hr1 hg1
    rw [HN.out] at hl1 hp1
    have HP1 := hide hp1
    have HL1 := hide hl1
    clear hpc hr1 hg1 hp1 hl1 HS HP
    generalize putS L1 0 C = L2 at *
    gi_loopw [3] (fun s wr => ∃ t : Nat, s = .int .i64 ((8 * t : Nat) : Int) ∧ 1 ≤ t ∧ t ≤ n ∧ wr = w1) (fun s _ => n + 1 - ((intOf s).toNat) / 8)
    case atStart => exact ⟨1, rfl, by omega, by omega, rfl⟩
    case round =>
      obtain ⟨t, rfl, ht1, ht2, rfl⟩ := hrel
      obtain ⟨s, hs⟩ : ∃ s, s = 8 * t := ⟨_, rfl⟩
      rw [← hs]
      obtain ⟨q, hq⟩ : ∃ q : Nat, q = s * s := ⟨_, rfl⟩
      have hq2 : ((s : Nat) : Int) * (s : Nat) = (q : Nat) := by rw [hq]; push_cast; rfl
      have hq3 : q ≤ 64000000 := by rw [hq, hs]; exact Nat.le_trans (Nat.mul_le_mul (show 8 * t ≤ 8000 by omega) (show 8 * t ≤ 8000 by omega)) (by decide)
      have hw1 : IntKind.i64.wrap (((s : Nat) : Int) * (s : Nat)) = (q : Nat) := by rw [hq2]; exact IntWalk.i64_in _ (by omega)
      have hw2 : IntKind.i64.wrap (((n : Nat) : Int) * 8) = ((n * 8 : Nat) : Int) := by rw [IntWalk.i64_in _ (by omega)]; push_cast; rfl
      have hw3 : IntKind.i64.wrap (((s : Nat) : Int) + 8) = ((s + 8 : Nat) : Int) := by rw [IntWalk.i64_in _ (by omega)]; push_cast; rfl
      have HSS := hide hs
      have HQQ := hide hq
      clear hq2
      by_cases hql : q < n * 8
      · have k2 : ((q : Nat) : Int) < ((n * 8 : Nat) : Int) := by omega
        have ht3 : t + 1 ≤ n := by
          have h1 : (8 * t) * (8 * t) < n * 8 := by rw [← hs, ← hq]; exact hql
          have h2 : t * t ≥ t := Nat.le_mul_of_pos_left t (by omega)
          have h3 : (8 * t) * (8 * t) = 64 * (t * t) := by grind
          omega
        clear hs hq hql
        gi_wp2
        go_roundw
        case rel => exact ⟨t + 1, by rw [HSS.out]; rfl, by omega, ht3, trivial⟩
        case measure => have := HSS.out; simp [intOf]; omega
      · have k2 : ¬ ((q : Nat) : Int) < ((n * 8 : Nat) : Int) := by omega
        have hs8 : 1 ≤ s ∧ s ≤ 8000 := by omega
        clear hs hq hql hq3
        obtain ⟨wa, hwa⟩ : ∃ wa, wr.alloc (.cells #[.slice none 0 0] 153) = wa := ⟨_, rfl⟩
        have HB0 := hide (PkL.begin (L := L2) (by rw [HL1.out]; exact HP1.out))
        rw [hwa] at HB0
        have HC := hide (chunk_new g 0 s n cap hs8.1 wa)
        gi_wp2_with (gi_at_call 176; refine (callsIn_wide.2 HC.out).mono ?_; rintro e w2 ⟨rfl, hb2, hz2, hc2⟩)
        obtain ⟨Bn, hBn⟩ : ∃ Bn, wr.heap.size = Bn := ⟨_, rfl⟩
        obtain ⟨B1, hB1⟩ : ∃ B1, wa.heap.size = B1 := ⟨_, rfl⟩
        have hb2' := hb2
        have hz1 : Bn < B1 := by rw [← hB1, ← hwa, ← hBn]; simp
        rw [hBn] at HB0 ⊢
        rw [hB1] at hz2 hc2 ⊢
        have HOI := hide (outI_start (s := s) (B1 := B1) HB0.out.1 HB0.out.2 hb2 (by rw [HL1.out]; exact hc2))
        have hDs := HB0.out.2
        have HLT : Hid (∀ D ∈ Ds, D < w2.heap.size) := hide (fun D hD => Nat.lt_of_lt_of_le (Array.getElem?_eq_some_iff.1 (hDs.2 D hD)).1 hb2.size)
        have h00 : w00.heap.size ≤ w2.heap.size := Nat.le_trans HB0.out.1.below.size hb2.size
        have HCK := hide hc2
        have HWA := hide hwa
        have HPKL := HP1
        have HS8 := HSS
        clear hwa hBn hB1 hb2 hb2' hc2 HC HB0 hDs hw1 hw2 hw3 k2 HP1 HSS HQQ
        generalize Value.bool (decide (((q : Nat) : Int) < ((n : Nat) : Int) * 8)) = v21 at *
        generalize Value.int .i64 (((n : Nat) : Int) * 8) = v20 at *
        obtain ⟨OO, hOQ⟩ : ∃ OO : List (Cx s n) → World → Prop, OO = fun pre W => OutI w00 d g cap Bn B1 L2 s Ds (pre.map (fun y : Cx s n => y.1)) W := ⟨_, rfl⟩
        have HOQ := hide hOQ
        clear hOQ hz2
        refine wpIn_rangeFunc_ownH rfl (by omega) (gf := 231) (lb := #[.pointer (some ⟨B1, 0, none⟩), .pointer (some ⟨B1 + 1, 0, none⟩)]) rfl trivial (enters_of Tryz.func231 (by kernel_rfl) rfl)
          (chunk_stops 19 (by omega) B1 (B1 + 1) g 0 s n cap hs8.1 (by omega) (by omega) hcap w2 HCK.out) Kb.trans (fun W l o o' _ h1 h2 _ => Kb.putObj W l o o' h1 h2) (Below.refl _ _) (fun _ => rfl)
          OO (fun _ _ _ => False) (fun pre W W' row h hg hr => by rw [HOQ.out] at h ⊢; exact OutI.own h h00 HLT.out hg hr) (fun _ _ _ _ _ h _ _ => h) (by rw [HOQ.out]; exact HOI.out)
          (fun x a' _ => a' = { tmps := #[Value.slice (some ⟨g, 0, none⟩) n cap, undef, Value.pointer none, Value.int .i64 ((s : Nat) : Int), Value.pointer (some ⟨Bn, 0, none⟩), (ckV g 0 s n x.1), undef, undef, undef, undef, Value.slice (some ⟨g, 0, none⟩) n cap, Value.int .i64 ((n : Nat) : Int), Value.bool true, Value.slice (some ⟨g, 0, none⟩) n cap, Value.tuple #[], Value.int .i64 ((s : Nat) : Int), Value.int .i64 ((s : Nat) : Int), Value.int .i64 ((q : Nat) : Int), Value.slice (some ⟨g, 0, none⟩) n cap, Value.int .i64 ((n : Nat) : Int), v20, v21, u22, u23, Value.slice (some ⟨g, 0, none⟩) n cap, Value.int .i64 ((s : Nat) : Int), Value.func (.func 231) #[] #[Value.pointer (some ⟨B1, 0, none⟩), Value.pointer (some ⟨(B1 + 1), 0, none⟩)], (ckV g 0 s n x.1), undef, undef, undef, undef, undef, undef, undef, undef, undef, undef, undef, undef, undef, undef, undef, undef, undef, undef, undef, undef, undef, undef, undef, undef, undef, undef, undef, undef, undef, undef, undef, undef, undef, undef, undef, undef, undef, undef, u66, undef, undef, undef, undef, undef, undef], defers := [] }) (fun _ _ _ _ _ _ h _ _ => h)
          ?assign ?body ?done ?stop
        case assign =>
          rintro l pre x W K hI hK
          unfold encC
          gi_wp2
          exact hK _ _ (KeepsFrom.refl _ _) (Kb.below (Below.refl _ _)) hI rfl
        case stop =>
          rintro _ _ _ _ _ _ h
          exact h.elim
        case done =>
          rintro D xs W hD hS hI hK
          rw [HOQ.out] at hI
          have hDn : D ∉ Ds := fun hm => by have := HLT.out D hm; omega
          obtain ⟨M, nv, hnx, hpl, hml, hlv⟩ := OutI.next (L0 := L) (by rw [← hS]; exact hI) HL1.out hs8.1 (by rw [← List.append_nil (leavesN L2)]; simpa using HPKL.out.perm) hK hDn (fun D' h' => (List.mem_cons.1 h').elim (fun e => by omega) (HPKL.out.lo D')) (by omega) (by omega)
          have nb := cell_of_row _ Bn 0 _ _ _ hnx
          have HPL := hide hpl
          have HLV := hide hlv
          have HML := hide hml
          clear hI hS hK hnx hpl hlv hml
          gi_wp2
          refine ⟨⟨D :: Ds, d + 1, M, nv, _, _, _, _, _, _, _, _, _, _, _, _, _, _, _, _, _, _, _, _, rfl, HPL⟩, ?_⟩
          show lenV nv < lenV (.slice (some ⟨g, 0, none⟩) n cap)
          rw [HLV.out]
          exact HML.out
        case body =>
          rintro l pre x a' W hl ⟨rr, hr⟩ hI rfl hpl
          rw [HOQ.out] at hI
          obtain ⟨hmk, hck, L', M, nv, X, hpk, hpm, hml, hst⟩ := hI
          have hxn := x.2
          obtain ⟨o, ho⟩ : ∃ o, o = x.1 * s := ⟨_, rfl⟩
          obtain ⟨m, hm⟩ : ∃ m, m = min s (n - o) := ⟨_, rfl⟩
          have hck2 : ckV g 0 s n x.1 = .slice (some ⟨g, o, none⟩) m m := by unfold ckV; rw [Nat.zero_add, ← ho, ← hm]
          rw [hck2]
          clear hck2
          have hll : L'.length = n := by rw [hpm.length_eq]; exact HL1.out
          rw [← ho] at hxn
          have hm1 : 1 ≤ m ∧ m ≤ 8000 ∧ o + m ≤ n := by omega
          have HS2 := hide (sort_nodes 177 cfY (.inr rfl) (enters_of Tryz.func177 (by kernel_rfl) rfl) less_y X d L' w00.heap.size g cap m o m W hpk.row hpk.xg hpk.old (by omega) hm1.1 (by omega))
          have HC2 := hide (fun W => chunk_new g o 8 m m (by omega) W)
          have HST := hide (fun (W1 W2 : World) (C : List Nd) hC hr hg hb hc2 => inI_start (n0 := w2.heap.size) (o := o) (m := m) (W1 := W1) (W2 := W2) (C := C) hmk (by rw [HL1.out] at hck; exact hck) hpk (by omega) hC hr hg hb hc2)
          have HRR := hide hr
          have HGC : Hid (∃ cur, W.heap[g]? = some (.cells cur 146 (0, 0))) := hide (by obtain ⟨_, cur, hc⟩ := own_block hpk.row rfl; exact ⟨cur, hc⟩)
          have HW := hide (show w00.heap.size ≤ W.heap.size from hpk.below.size)
          have HBW := hide hpk.gb.2.2.2.1
          have HMK := hide hmk
          have HO := hide ho
          have HM := hide hm
          have HPM := hide hpm
          have HSTR := hide hst
          have HLL := hide hll
          have HXN := hide hxn
          clear hmk hck hpk hr ho hm hpm hst hll hxn
          gi_wp2_with (first
            | (gi_at_call 174; refine (CallsIn.inRound l (callsIn_wide.2 HS2.out)).mono ?_; rintro e w3 ⟨rfl, C, hpc, hr3, hg3⟩)
            | (gi_at_call 176; refine (CallsIn.inRound l (callsIn_wide.2 (HC2.out _))).mono ?_; rintro e w4 ⟨rfl, hb4, hz4, hc4⟩))
          obtain ⟨B3, hB3⟩ : ∃ B3, w3.heap.size = B3 := ⟨_, rfl⟩
          have HII := hide (HST.out w3 w4 C hpc hr3 hg3 hb4 hc4)
          rw [hB3] at HII hc4 ⊢
          have HBN3 : Hid (Bn < B3) := hide (by rw [← hB3]; exact Nat.lt_of_lt_of_le HBW.out hg3.size)
          have hsz4 : W.heap.size ≤ w4.heap.size := Nat.le_trans hg3.size hb4.size
          have hrr4 : w4.heap[l]? = some (.loop rr) := by
            have h3 : w3.heap[l]? = some (.loop rr) := (hg3.block l (Array.getElem?_eq_some_iff.1 HRR.out).1 (fun e => by
              obtain ⟨cur, hc⟩ := HGC.out
              rw [Option.some.inj e, hc] at HRR
              cases HRR.out)).trans HRR.out
            exact (hb4.block l (Array.getElem?_eq_some_iff.1 h3).1).trans h3
          have HLT4 : Hid (∀ D ∈ Ds, D < w4.heap.size) := hide (fun D hD => Nat.lt_of_lt_of_le (Array.getElem?_eq_some_iff.1 (HMK.out.2 D hD)).1 hsz4)
          have h004 : w00.heap.size ≤ w4.heap.size := Nat.le_trans HW.out hsz4
          have HPC := hide hpc
          obtain ⟨L'', hL''⟩ : ∃ L'', L'' = putS L' o C := ⟨_, rfl⟩
          rw [← hL''] at HII
          have HL'' := hide hL''
          have HC4 := hide hc4
          clear hL'' hpc hr3 hg3 hb4 hz4 hc4 HS2 HC2 HST hB3 HRR HGC HMK
          obtain ⟨II, hIQ⟩ : ∃ II : List (Cx 8 m) → World → Prop, II = fun pre' W' => InI w00 d g cap Bn B1 B3 L'' M s n o m w2.heap.size Ds W (pre'.map (fun y : Cx 8 m => y.1)) W' := ⟨_, rfl⟩
          have HIQ := hide hIQ
          clear hIQ
          refine wpIn_rangeFunc_ownN (l₀ := l) (r₀ := rr) rfl hrr4 (by omega) (gf := 231) (lb := #[.pointer (some ⟨B3, 0, none⟩), .pointer (some ⟨B3 + 1, 0, none⟩)]) rfl trivial (enters_of Tryz.func231 (by kernel_rfl) rfl)
            ((chunk_stops (20 - 1 - 1 - 1) (by omega) B3 (B3 + 1) g o 8 m m (by omega) (by omega) (by omega) (Nat.le_refl _) w4 HC4.out).inRound l) Kb.trans (fun W l o o' _ h1 h2 _ => Kb.putObj W l o o' h1 h2) (Below.refl _ _) (fun _ => rfl)
            II (fun _ _ _ => False) (fun pre' X Y row h hg hr => by rw [HIQ.out] at h ⊢; exact InI.own h h004 hsz4 HLT4.out hg hr) (fun _ _ _ _ _ h _ _ => h) (by rw [HIQ.out]; exact HII.out)
            (fun y a'' _ => a'' = { tmps := #[Value.slice (some ⟨g, 0, none⟩) n cap, undef, Value.pointer none, Value.int .i64 ((s : Nat) : Int), Value.pointer (some ⟨Bn, 0, none⟩), Value.slice (some ⟨g, o, none⟩) m m, (ckV g o 8 m y.1), undef, undef, undef, Value.slice (some ⟨g, 0, none⟩) n cap, Value.int .i64 ((n : Nat) : Int), Value.bool true, Value.slice (some ⟨g, 0, none⟩) n cap, Value.tuple #[], Value.int .i64 ((s : Nat) : Int), Value.int .i64 ((s : Nat) : Int), Value.int .i64 ((q : Nat) : Int), Value.slice (some ⟨g, 0, none⟩) n cap, Value.int .i64 ((n : Nat) : Int), v20, v21, u22, u23, Value.slice (some ⟨g, 0, none⟩) n cap, Value.int .i64 ((s : Nat) : Int), Value.func (.func 231) #[] #[Value.pointer (some ⟨B1, 0, none⟩), Value.pointer (some ⟨(B1 + 1), 0, none⟩)], Value.slice (some ⟨g, o, none⟩) m m, Value.slice (some ⟨g, o, none⟩) m m, Value.tuple #[], Value.slice (some ⟨g, o, none⟩) m m, Value.func (.func 231) #[] #[Value.pointer (some ⟨B3, 0, none⟩), Value.pointer (some ⟨(B3 + 1), 0, none⟩)], (ckV g o 8 m y.1), undef, undef, undef, undef, undef, undef, undef, undef, undef, undef, undef, undef, undef, undef, undef, undef, undef, undef, undef, undef, undef, undef, undef, undef, undef, undef, undef, undef, undef, undef, undef, undef, undef, u66, undef, undef, undef, undef, undef, undef], defers := [] }) (fun _ _ _ _ _ _ h _ _ => h)
            ?assign2 ?body2 ?done2 ?stop2
          case assign2 =>
            rintro l2 pre' y W' K hI2 hK
            unfold encC
            gi_wp2
            exact hK _ _ (KeepsFrom.refl _ _) (Kb.below (Below.refl _ _)) hI2 rfl
          case stop2 =>
            rintro _ _ _ _ h
            exact h.elim
          case done2 =>
            rintro ys W' hS hI2
            rw [HIQ.out] at hI2
            have HI2 := hide hI2
            have HS2 := hide hS
            clear hI2 hS
            gi_wp2
            have := inI_end (x := x.1) (pre := pre.map (fun y : Cx s n => y.1)) (L2 := L2) (L' := L') (C := C) HL1.out ⟨t, HS8.out⟩ HI2.out HS2.out HL''.out HPC.out HPM.out HO.out HM.out HXN.out hfew (by simpa using hml) (by simpa using HSTR.out)
            refine ⟨this.1, this.2.1, ?_⟩
            rw [HOQ.out]
            show OutI w00 d g cap Bn B1 L2 s Ds (List.map (fun y : Cx s n => y.1) (pre ++ [x])) W'
            rw [List.map_append]
            exact this.2.2
          case body2 =>
            rintro l2 pre' y a'' W' hl2 hr2 hI2 rfl hpl2
            rw [HIQ.out] at hI2
            obtain ⟨hmk, hck, hck2, hkb, hkf, Ns, nv2, X2, hpk, hnl, hpt⟩ := hI2
            obtain ⟨MN, hMN⟩ : ∃ MN, MN = M ++ Ns := ⟨_, rfl⟩
            rw [← hMN] at hpk
            have HMN := hide hMN
            clear hMN
            have hyn := y.2
            obtain ⟨k, hk⟩ : ∃ k, k = y.1 * 8 := ⟨_, rfl⟩
            obtain ⟨o2, ho2⟩ : ∃ o2, o2 = o + k := ⟨_, rfl⟩
            obtain ⟨e, he⟩ : ∃ e, e = min 8 (m - k) := ⟨_, rfl⟩
            have hck3 : ckV g o 8 m y.1 = .slice (some ⟨g, o2, none⟩) e e := by unfold ckV; rw [← hk, ← ho2, ← he]
            rw [hck3]
            clear hck3
            rw [← hk] at hyn
            have hl'' : L''.length = n := by rw [HL''.out, (putS_perm L' (by rw [HLL.out]; omega) HPC.out).length_eq]; exact HLL.out
            have he1 : 1 ≤ e ∧ e ≤ 8 ∧ o2 + e ≤ n := by omega
            obtain ⟨C2, hC2⟩ : ∃ C2, C2 = subL L'' o2 e := ⟨_, rfl⟩
            have hcl : C2.length = e := by rw [hC2]; exact subL_len L'' (by omega)
            have hcell : ∀ (i : Nat) (z : Nd), C2[i]? = some z → W'.cell? ⟨g, o2 + i, none⟩ = some (ndP z) := fun i z hz => by
              have hi : i < e := by rw [← hcl]; exact (List.getElem?_eq_some_iff.1 hz).1
              rw [hC2, subL_get L'' hi] at hz
              have h1 := hpk.row.cells (g := g) rfl (o2 + i) (ndP z) (by rw [List.getElem?_map, hz]; rfl)
              have e1 : (⟨g, 0, none⟩ : Addr).add (o2 + i) = ⟨g, o2 + i, none⟩ := by simp only [Addr.add, Nat.zero_add]; split <;> simp_all
              rw [← e1]
              exact h1
            have hmem : ∀ z ∈ C2, NodeAt W' X2 d z.g z.bx z.ls := fun z hz => hpk.old z (by rw [hC2] at hz; exact List.mem_of_mem_drop (List.mem_of_mem_take hz))
            obtain ⟨x0, C3, hC3⟩ : ∃ x0 C3, C2 = x0 :: C3 := by
              cases hc : C2 with
              | nil => rw [hc] at hcl; simp at hcl; omega
              | cons x0 C3 => exact ⟨x0, C3, rfl⟩
            have hx0 := hcell 0 x0 (by rw [hC3]; rfl)
            obtain ⟨id0, pv0, hb0, hs0⟩ := (hmem x0 (by rw [hC3]; exact List.mem_cons_self ..)).cells
            obtain ⟨A0, n0', c0', rfl⟩ := hs0
            rw [Nat.add_zero] at hx0
            unfold ndP at hx0
            have hmx : Tryz.prog.follows .mixedOrders = true := by kernel_rfl
            have hbd : Below W'.heap.size W' W'.drew := below_drew W'
            have hlg : g < W'.heap.size := hpk.gb.2.2.1
            have CEL : ∀ w : World, Below W'.heap.size W' w → w.cell? ⟨g, o2, none⟩ = some (.pointer (some ⟨x0.g, 0, none⟩)) ∧ w.cell? ⟨x0.g, 0, none⟩ = some (.int .i64 x0.bx.x0) ∧ w.cell? ⟨x0.g, 1, none⟩ = some (.int .i64 x0.bx.y0) ∧ w.cell? ⟨x0.g, 2, none⟩ = some (.int .i64 x0.bx.x1) ∧ w.cell? ⟨x0.g, 3, none⟩ = some (.int .i64 x0.bx.y1) := fun w hb => by
              obtain ⟨q0, q1, q2, q3, _, _⟩ := box6n (blkB hb hb0)
              exact ⟨(hb.cell (p := ⟨g, o2, none⟩) hlg).trans hx0, q0, q1, q2, q3⟩
            have HCEL := hide CEL
            obtain ⟨d0, d1, d2, d3, d4⟩ := CEL W'.drew hbd
            have HCL := hide (clone_any C2 g o2 e W'.drew (by omega) (fun i z hz => (hbd.cell (p := ⟨g, o2 + i, none⟩) hlg).trans (hcell i z hz)) (Nat.lt_of_lt_of_le hlg hbd.size) (by omega))
            rw [hcl] at HCL
            have e0 : (0 : Int) < ((e : Nat) : Int) := by omega
            have HPK := hide hpk
            have HCE := hide hcell
            have HMEM := hide hmem
            have HC2 := hide hC2
            have HCL2 := hide hcl
            have HK := hide hk
            have HO2 := hide ho2
            have HE := hide he
            have HHL := hide hl''
            have HYN := hide hyn
            have HC3 := hide hC3
            have HI3 := hide (And.intro hmk (And.intro hck (And.intro hck2 (And.intro hkb (And.intro hkf (And.intro hnl hpt))))))
            clear hmk hck hck2 hkb hkf hnl hpt hpk hcell hmem hC2 hcl hk ho2 he hl'' hyn hb0 hC3 CEL hx0 hbd hlg
            gi_wp2
            refine wpIn_mono (Q := NormalPost fun a2 w2 => ∃ (p cp gu : Nat) (w5 : World), a2 = { tmps := #[Value.slice (some ⟨g, 0, none⟩) n cap, undef, Value.pointer none, Value.int .i64 ((s : Nat) : Int), Value.pointer (some ⟨Bn, 0, none⟩), Value.slice (some ⟨g, o, none⟩) m m, Value.slice (some ⟨g, o2, none⟩) e e, Value.pointer (some ⟨gu, 0, none⟩), undef, undef, Value.slice (some ⟨g, 0, none⟩) n cap, Value.int .i64 ((n : Nat) : Int), Value.bool true, Value.slice (some ⟨g, 0, none⟩) n cap, Value.tuple #[], Value.int .i64 ((s : Nat) : Int), Value.int .i64 ((s : Nat) : Int), Value.int .i64 ((q : Nat) : Int), Value.slice (some ⟨g, 0, none⟩) n cap, Value.int .i64 ((n : Nat) : Int), v20, v21, u22, u23, Value.slice (some ⟨g, 0, none⟩) n cap, Value.int .i64 ((s : Nat) : Int), Value.func (.func 231) #[] #[Value.pointer (some ⟨B1, 0, none⟩), Value.pointer (some ⟨(B1 + 1), 0, none⟩)], Value.slice (some ⟨g, o, none⟩) m m, Value.slice (some ⟨g, o, none⟩) m m, Value.tuple #[], Value.slice (some ⟨g, o, none⟩) m m, Value.func (.func 231) #[] #[Value.pointer (some ⟨B3, 0, none⟩), Value.pointer (some ⟨(B3 + 1), 0, none⟩)], Value.slice (some ⟨g, o2, none⟩) e e, Value.slice (some ⟨g, o2, none⟩) e e, Value.pointer (some ⟨g, o2, none⟩), Value.pointer (some ⟨x0.g, 0, none⟩), Value.pointer (some ⟨x0.g, 0, none⟩), Value.pointer (some ⟨x0.g, 0, none⟩), Value.agg #[Value.int .i64 x0.bx.x0, Value.int .i64 x0.bx.y0, Value.int .i64 x0.bx.x1, Value.int .i64 x0.bx.y1], Value.slice (some ⟨g, o2, none⟩) e e, Value.slice (some ⟨p, 0, none⟩) e cp, Value.agg #[Value.int .i64 x0.bx.x0, Value.int .i64 x0.bx.y0, Value.int .i64 x0.bx.x1, Value.int .i64 x0.bx.y1, Value.string ⟨#[]⟩, Value.slice (some ⟨p, 0, none⟩) e cp], Value.pointer (some ⟨gu, 0, none⟩), undef, undef, undef, undef, undef, undef, undef, undef, undef, undef, undef, undef, undef, undef, undef, undef, undef, undef, undef, undef, undef, undef, undef, u66, undef, undef, undef, undef, undef, undef], defers := [] } ∧ w2 = w5.alloc (.cells #[Value.int .i64 x0.bx.x0, Value.int .i64 x0.bx.y0, Value.int .i64 x0.bx.x1, Value.int .i64 x0.bx.y1, Value.string ⟨#[]⟩, Value.slice (some ⟨p, 0, none⟩) e cp] 155) ∧ Hid (gu = w5.heap.size ∧ W'.drew.heap.size ≤ p ∧ w5.ownsRow W'.drew.heap.size 146 1 (.slice (some ⟨p, 0, none⟩) e cp) e (C2.map ndP) ∧ Below W'.drew.heap.size W'.drew w5)) ?_ ?_
            · gi_region_with_o (refine (CallsIn.inRound l2 (CallsIn.inRound l (callsIn_wide.2 HCL.out))).mono ?_; rintro _ w5 ⟨p, cp, rfl, hp5, hro5, hb5⟩; have hb5' : Below W'.heap.size W' w5 := bto (below_drew W') hb5; obtain ⟨s0, s1, s2, s3, s4⟩ := HCEL.out w5 hb5')
              all_goals first
                | exact ⟨_, _, _, rfl, _, rfl, hide ⟨rfl, (by assumption), (by assumption), (by assumption)⟩⟩
                | exact ⟨_, _, _, _, rfl, rfl, hide ⟨rfl, (by assumption), (by assumption), (by assumption)⟩⟩
            · refine NormalPost.imp ?_
              rintro _ _ ⟨p, cp, gu, w5, rfl, rfl, h5⟩
              clear HCL d0 d1 d2 d3 d4
              obtain ⟨rfl, hp5, hro5, hb5⟩ := h5.out
              have hro6 : w5.ownsRow W'.heap.size 146 1 (.slice (some ⟨p, 0, none⟩) C2.length cp) C2.length (C2.map ndP) := by rw [HCL2.out]; exact hro5
              have HUS := hide (upI_start (W0 := W') (x0 := x0) hp5 hro6 (bto (below_drew W') hb5))
              rw [HCL2.out] at HUS
              clear h5 hp5 hro5 hb5 hro6
              gi_wp2
              obtain ⟨gu, hgu⟩ : ∃ gu, w5.heap.size = gu := ⟨_, rfl⟩
              rw [hgu] at HUS ⊢
              clear hgu
              generalize w5.alloc _ = w6 at *
              gi_loopw [45] (fun i wr => ∃ k1 : Nat, k1 ≤ e ∧ i = .int .i64 k1 ∧ Hid (UpI W' W'.heap.size gu p cp x0 C2 k1 wr)) (fun i _ => e - (intOf i).toNat)
              case atStart => exact ⟨0, Nat.zero_le _, rfl, HUS⟩
              case round =>
                clear HUS
                obtain ⟨k1, hk1, rfl, hus⟩ := hrel
                by_cases hlk : k1 < e
                · have hlk2 : k1 < C2.length := by rw [HCL2.out]; exact hlk
                  have hzg := List.getElem?_eq_getElem hlk2
                  have hzm := HMEM.out _ (List.getElem_mem hlk2)
                  generalize C2[k1] = z at *
                  have HBEL := hide hus.out.bel
                  have hgw := HPK.out.gb.2.2.1
                  obtain ⟨idz, pz, hzb, _⟩ := hzm.cells
                  have CEL : ∀ w : World, Below W'.heap.size W' w → w.cell? ⟨g, o2 + k1, none⟩ = some (.pointer (some ⟨z.g, 0, none⟩)) ∧ w.cell? ⟨z.g, 0, none⟩ = some (.int .i64 z.bx.x0) ∧ w.cell? ⟨z.g, 1, none⟩ = some (.int .i64 z.bx.y0) ∧ w.cell? ⟨z.g, 2, none⟩ = some (.int .i64 z.bx.x1) ∧ w.cell? ⟨z.g, 3, none⟩ = some (.int .i64 z.bx.y1) := fun w hb => by
                    obtain ⟨q0, q1, q2, q3, _, _⟩ := box6n (blkB hb hzb)
                    exact ⟨(hb.cell (p := ⟨g, o2 + k1, none⟩) hgw).trans (HCE.out k1 z hzg), q0, q1, q2, q3⟩
                  obtain ⟨d0, _⟩ := CEL wr HBEL.out
                  obtain ⟨e0', e1', e2', e3', e4'⟩ := CEL wr.drew (bto HBEL.out (below_drew wr))
                  obtain ⟨⟨u0', u1', u2', u3'⟩, uf⟩ := hus.out.cells
                  have v0' : wr.drew.cell? ⟨gu, 0, none⟩ = _ := u0'
                  have v1' : wr.drew.cell? ⟨gu, 1, none⟩ = _ := u1'
                  have v2' : wr.drew.cell? ⟨gu, 2, none⟩ = _ := u2'
                  have v3' : wr.drew.cell? ⟨gu, 3, none⟩ = _ := u3'
                  have HUS := hide hus.out
                  have HZG := hide hzg
                  have HSTEP := hide (fun w7 (hb7 : Below wr.heap.size wr w7) => hus.out.step hzg hb7)
                  have HFRO : Hid (∀ w7 : World, Below wr.heap.size wr w7 → (w7.cell? ⟨gu, 0, none⟩ = wr.cell? ⟨gu, 0, none⟩ ∧ w7.cell? ⟨gu, 1, none⟩ = wr.cell? ⟨gu, 1, none⟩ ∧ w7.cell? ⟨gu, 2, none⟩ = wr.cell? ⟨gu, 2, none⟩ ∧ w7.cell? ⟨gu, 3, none⟩ = wr.cell? ⟨gu, 3, none⟩) ∧ (w7.frozen? ⟨gu, 0, none⟩ = false ∧ w7.frozen? ⟨gu, 1, none⟩ = false ∧ w7.frozen? ⟨gu, 2, none⟩ = false ∧ w7.frozen? ⟨gu, 3, none⟩ = false)) := hide (fun w7 hb7 => by
                    have h7 := blkB hb7 hus.out.up
                    have hl := lt_of_block hus.out.up
                    exact ⟨⟨hb7.cell (p := ⟨gu, 0, none⟩) hl, hb7.cell (p := ⟨gu, 1, none⟩) hl, hb7.cell (p := ⟨gu, 2, none⟩) hl, hb7.cell (p := ⟨gu, 3, none⟩) hl⟩, frozen_of_row w7 gu 0 _ _ h7, frozen_of_row w7 gu 1 _ _ h7, frozen_of_row w7 gu 2 _ _ h7, frozen_of_row w7 gu 3 _ _ h7⟩)
                  have UC := hide (And.intro u0' (And.intro u1' (And.intro u2' u3')))
                  generalize aroundL x0.bx ((C2.take k1).map Nd.bx) = bu at *
                  have HAR := hide (around_any bu z.bx wr.drew)
                  obtain ⟨r, hr⟩ : ∃ r, aroundX bu z.bx = r := ⟨_, rfl⟩
                  rw [hr] at HAR HSTEP
                  clear hr
                  unfold bxC at HAR
                  have k10 : (0 : Int) ≤ (k1 : Nat) := by omega
                  have k11 : ((k1 : Nat) : Int) < (e : Nat) := by omega
                  have HLK := hide hlk
                  clear hus hk1 hlk hlk2 hzg hzm hzb CEL u0' u1' u2' u3' uf
                  gi_wp2
                  refine region_round (F := Fence.wide) rfl l2 (by kernel_rfl) hmx ?_
                  simp only [List.size_toArray, List.length_cons, List.length_nil, Nat.reduceAdd]
                  refine wpAnyIn_take (i := 0) (v := .pointer (some ⟨gu, 0, none⟩)) rfl rfl (by kernel_rfl) (by kernel_rfl) (by kernel_rfl) (fun _ _ _ h => h) ⟨.inl ⟨by kernel_rfl, fun w => rfl⟩, fun w => rfl⟩ ?_
                  refine wpAnyIn_take (i := 1) (v := .pointer (some ⟨gu, 0, none⟩)) rfl rfl (by kernel_rfl) (by kernel_rfl) (by kernel_rfl) (fun _ _ _ h => h) ⟨.inl ⟨by kernel_rfl, fun w => rfl⟩, fun w => rfl⟩ ?_
                  refine wpAnyIn_take (i := 2) (v := .pointer (some ⟨gu, 0, none⟩)) rfl rfl (by kernel_rfl) (by kernel_rfl) (by kernel_rfl) (fun _ _ _ h => h) ⟨.inl ⟨by kernel_rfl, fun w => by go_simp⟩, fun w => rfl⟩ ?_
                  refine wpAnyIn_take (i := 3) (v := .pointer (some ⟨gu, 0, none⟩)) rfl rfl (by kernel_rfl) (by kernel_rfl) (by kernel_rfl) (fun _ _ _ h => h) ⟨.inl ⟨by kernel_rfl, fun w => by go_simp⟩, fun w => rfl⟩ ?_
                  refine wpAnyIn_take (i := 5) (v := .pointer (some ⟨z.g, 0, none⟩)) rfl rfl (by kernel_rfl) (by kernel_rfl) (by kernel_rfl) (fun _ _ _ h => h) ⟨.inl ⟨by kernel_rfl, fun w => rfl⟩, fun w => rfl⟩ ?_
                  refine wpAnyIn_take (i := 6) (v := .pointer (some ⟨z.g, 0, none⟩)) rfl rfl (by kernel_rfl) (by kernel_rfl) (by kernel_rfl) (fun _ _ _ h => h) ⟨.inl ⟨by kernel_rfl, fun w => by go_simp⟩, fun w => rfl⟩ ?_
                  refine wpAnyIn_take (i := 7) (v := .pointer (some ⟨z.g, 0, none⟩)) rfl rfl (by kernel_rfl) (by kernel_rfl) (by kernel_rfl) (fun _ _ _ h => h) ⟨.inl ⟨by kernel_rfl, fun w => by go_simp⟩, fun w => rfl⟩ ?_
                  refine wpAnyIn_ready (rs := [4, 8]) (by kernel_rfl) (by simp) ?_
                  refine AllReadyIn.cons rfl (fun K' hK => ?_) (AllReadyIn.cons rfl (fun K' hK => ?_) AllReadyIn.nil)
                  · rw [if_pos (by kernel_rfl)]
                    refine ⟨fun f hf => (by cases hf), ?_⟩
                    go_simp
                    refine hK _ _ ?_
                    refine wpAnyIn_ready (rs := [8]) (by kernel_rfl) (by simp) ?_
                    refine AllReadyIn.cons rfl (fun K' hK => ?_) AllReadyIn.nil
                    rw [if_pos (by kernel_rfl)]
                    refine ⟨fun f hf => (by cases hf), ?_⟩
                    go_simp
                    refine hK _ _ ?_
                    refine wpAnyIn_ready (rs := [9]) (by kernel_rfl) (by simp) ?_
                    refine AllReadyIn.cons rfl (fun K' hK => ?_) AllReadyIn.nil
                    rw [if_pos (by kernel_rfl)]
                    refine ⟨fun f hf => trivial, ?_⟩
                    go_simp
                    refine (callsIn_wide.2 HAR.out).mono ?_
                    rintro _ w7 ⟨rfl, hb7⟩
                    refine hK _ _ ?_
                    refine wpAnyIn_take (i := 10) (v := .pointer (some ⟨gu, 0, none⟩)) rfl rfl (by kernel_rfl) (by kernel_rfl) (by kernel_rfl) (fun _ _ _ h => h) ⟨.inl ⟨by kernel_rfl, fun w => by go_simp⟩, fun w => rfl⟩ ?_
                    refine wpAnyIn_take (i := 11) (v := .pointer (some ⟨gu, 0, none⟩)) rfl rfl (by kernel_rfl) (by kernel_rfl) (by kernel_rfl) (fun _ _ _ h => h) ⟨.inl ⟨by kernel_rfl, fun w => by go_simp⟩, fun w => rfl⟩ ?_
                    have hb7' : Below wr.heap.size wr w7 := bto (below_drew wr) hb7
                    obtain ⟨⟨t0', t1', t2', t3'⟩, t4', t5', t6', t7'⟩ := HFRO.out w7 hb7'
                    obtain ⟨p0', p1', p2', p3'⟩ := UC.out
                    rw [p0'] at t0'
                    rw [p1'] at t1'
                    rw [p2'] at t2'
                    rw [p3'] at t3'
                    refine wpAnyIn_ready (rs := [12]) (by kernel_rfl) (by simp) ?_
                    refine AllReadyIn.cons rfl (fun K' hK => ?_) AllReadyIn.nil
                    rw [if_pos (by kernel_rfl)]
                    refine ⟨fun f hf => (by cases hf), ?_⟩
                    go_simp
                    refine hK _ _ (wpAnyIn_done (by kernel_rfl) ?_ _)
                    gi_wp2
                    go_roundw
                    case rel => exact ⟨k1 + 1, HLK.out, by go_num, hide (HSTEP.out w7 hb7')⟩
                    case measure => have := HLK.out; simp [intOf]; omega
                  · rw [if_pos (by kernel_rfl)]
                    refine ⟨fun f hf => (by cases hf), ?_⟩
                    go_simp
                    refine hK _ _ ?_
                    refine wpAnyIn_ready (rs := [4]) (by kernel_rfl) (by simp) ?_
                    refine AllReadyIn.cons rfl (fun K' hK => ?_) AllReadyIn.nil
                    rw [if_pos (by kernel_rfl)]
                    refine ⟨fun f hf => (by cases hf), ?_⟩
                    go_simp
                    refine hK _ _ ?_
                    refine wpAnyIn_ready (rs := [9]) (by kernel_rfl) (by simp) ?_
                    refine AllReadyIn.cons rfl (fun K' hK => ?_) AllReadyIn.nil
                    rw [if_pos (by kernel_rfl)]
                    refine ⟨fun f hf => trivial, ?_⟩
                    go_simp
                    refine (callsIn_wide.2 HAR.out).mono ?_
                    rintro _ w7 ⟨rfl, hb7⟩
                    refine hK _ _ ?_
                    refine wpAnyIn_take (i := 10) (v := .pointer (some ⟨gu, 0, none⟩)) rfl rfl (by kernel_rfl) (by kernel_rfl) (by kernel_rfl) (fun _ _ _ h => h) ⟨.inl ⟨by kernel_rfl, fun w => by go_simp⟩, fun w => rfl⟩ ?_
                    refine wpAnyIn_take (i := 11) (v := .pointer (some ⟨gu, 0, none⟩)) rfl rfl (by kernel_rfl) (by kernel_rfl) (by kernel_rfl) (fun _ _ _ h => h) ⟨.inl ⟨by kernel_rfl, fun w => by go_simp⟩, fun w => rfl⟩ ?_
                    have hb7' : Below wr.heap.size wr w7 := bto (below_drew wr) hb7
                    obtain ⟨⟨t0', t1', t2', t3'⟩, t4', t5', t6', t7'⟩ := HFRO.out w7 hb7'
                    obtain ⟨p0', p1', p2', p3'⟩ := UC.out
                    rw [p0'] at t0'
                    rw [p1'] at t1'
                    rw [p2'] at t2'
                    rw [p3'] at t3'
                    refine wpAnyIn_ready (rs := [12]) (by kernel_rfl) (by simp) ?_
                    refine AllReadyIn.cons rfl (fun K' hK => ?_) AllReadyIn.nil
                    rw [if_pos (by kernel_rfl)]
                    refine ⟨fun f hf => (by cases hf), ?_⟩
                    go_simp
                    refine hK _ _ (wpAnyIn_done (by kernel_rfl) ?_ _)
                    gi_wp2
                    go_roundw
                    case rel => exact ⟨k1 + 1, HLK.out, by go_num, hide (HSTEP.out w7 hb7')⟩
                    case measure => have := HLK.out; simp [intOf]; omega
                · obtain rfl : k1 = e := by omega
                  have k11 : ¬ ((k1 : Nat) : Int) < (k1 : Nat) := by omega
                  have hus2 := hus.out
                  rw [← HCL2.out] at hus2
                  have hgb := HPK.out.gb
                  obtain ⟨Y, hY⟩ : ∃ Y : Nat → Prop, Y = fun b => b = g ∨ b = Bn ∨ nv2.ownBlock = some b := ⟨_, rfl⟩
                  have hYX : ∀ b, Y b → X2 b := fun b hb => by
                    rw [hY] at hb
                    rcases hb with e | e | e
                    · rw [e]; exact HPK.out.xg
                    · rw [e]; exact HPK.out.xb
                    · exact HPK.out.xn b e
                  have hYW : ∀ b, Y b → b < W'.heap.size := fun b hb => by
                    rw [hY] at hb
                    rcases hb with e | e | e
                    · rw [e]; exact hgb.2.2.1
                    · rw [e]; exact hgb.2.2.2.1
                    · obtain ⟨_, cur, hc⟩ := own_block HPK.out.nrow e
                      exact lt_of_block hc
                  have hnode := hus2.node hYW hYX HC3.out HMEM.out
                  have hpk5 := (HPK.out.more (Y := Y) (fun b _ hb => hYX b hb) (by rw [hY]; exact .inl rfl) (by rw [hY]; exact .inr (.inl rfl)) (fun b e => by rw [hY]; exact .inr (.inr e))).lift hus2.bel
                  have HNODE := hide hnode
                  have HPK5 := hide hpk5
                  have HB5 := hide hus2.bel
                  have nb := cell_of_row wr Bn 0 _ _ _ hpk5.nx
                  have nf := frozen_of_row wr Bn 0 _ _ hpk5.nx
                  have hML : MN.length ≤ 2000000 := by
                    rw [HMN.out, List.length_append]
                    have h1 := HI3.out.2.2.2.2.2.1
                    rw [List.length_map] at h1
                    have h2 : pre.length * 1000 ≤ 1000000 := by
                      have := Nat.mul_le_mul_right 1000 (show pre.length ≤ 1000 by omega)
                      omega
                    have h3 := hml
                    rw [List.length_map] at h3
                    omega
                  have hba : Below wr.heap.size wr (wr.alloc (.cells #[.pointer (some ⟨gu, 0, none⟩)] 146)) := (Below.refl _ _).alloc (Nat.le_refl _) _
                  have HPK6 := hide (hpk5.lift hba)
                  have HND6 := hide (hnode.kept (bgrow hba) (fun r e => by cases e))
                  have HB6 := hide (bto hus2.bel hba)
                  have HBS := hide hba.size
                  clear hus hus2 hgb hYX hYW hnode hpk5 hba hk1 hlk
                  have nb6 := cell_of_row _ Bn 0 _ _ _ HPK6.out.nx
                  gi_wp2_with (gi_at_builtin; refine wpListIn_append_lies _ rfl (.tmp 62) (.tmp 64) 153 rfl w00.heap.size 146 i0 (.pointer none) 1 8 Tryz.underlying153 HI0.out HZ0.out HZ1.out HZ2.out rfl (by decide) nv2 MN.length (MN.map ndP) rfl HPK6.out.nrow ⟨wr.heap.size, 0, none⟩ 1 1 [.pointer (some ⟨gu, 0, none⟩)] rfl rfl (fun j u hj => World.news_of_block (cs := #[.pointer (some ⟨gu, 0, none⟩)]) (t := 146) (fr := (0, 0)) (heap_alloc_new wr _) j u hj) (fun u hu => by simp at hu; rw [hu]; rfl) (by decide) (by unfold maxLen; omega) (by omega) HPK6.out.below.size (wr.heap.size + 1) (by simp) ?_; intro g9 cap9 w9 hown9 hgrow9 hat9 hlt9; have hnx9 := (hgrow9.block Bn HPK6.out.gb.2.2.2.1 (fun e => HPK6.out.gb.2.1 e.symm)).trans HPK6.out.nx; have q9 := cell_of_row _ Bn 0 _ _ _ hnx9; have f9 := frozen_of_row _ Bn 0 _ _ hnx9; clear hnx9; have HO9 := hide hown9; have HG9 := hide hgrow9; have HA9 := hide hat9; clear hown9 hgrow9 hat9 hlt9)
                  have hend := inI_push (n1 := w4.heap.size) (x := ⟨gu, aroundL x0.bx (C2.map Nd.bx), leavesN C2⟩) (y := y.1) HMN.out HI3.out HB6.out HPK6.out HND6.out HO9.out HG9.out (HA9.out.imp id (fun e => by rw [e]; simp)) (fun hgd => by
                    show leavesN C2 = _
                    rw [subL_subL, HC2.out, HO2.out, HE.out, HK.out, (good_snoc hgd).2]) ⟨hz1, HBN3.out⟩
                  refine ⟨hend.1, hend.2.1, ?_⟩
                  rw [HIQ.out]
                  show InI w00 d g cap Bn B1 B3 L'' M s n o m w2.heap.size Ds W (List.map (fun y : Cx 8 m => y.1) (pre' ++ [y])) _
                  rw [List.map_append]
                  exact hend.2.2
  · have hl1 : L1.length = 1 := by omega
    obtain ⟨x, hx⟩ : ∃ x, L1 = [x] := List.length_eq_one_iff.1 hl1
    rw [hl1] at hcap ⊢
    have hc0 : w.cell? ⟨g, 0, none⟩ = some (.pointer (some ⟨x.g, 0, none⟩)) := by
      have h1 := hp.out.row.cells (g := g) rfl 0 (ndP x) (by rw [hx]; rfl)
      simpa [Addr.add, ndP] using h1
    have hxn := hp.out.nodes x (by rw [hx]; exact List.mem_cons_self ..)
    have hpm := hp.out.perm
    rw [hx] at hpm
    have hpm2 : x.ls.Perm (leavesN L) := by simpa [leavesN] using hpm
    have HXN := hide (hxn.more (Y := fun _ => False) (fun _ _ h => h.elim))
    have HPM2 := hide hpm2
    have HMK := hide hp.out.marks
    have HBL := hide hp.out.below
    have hlo := hp.out.lo
    clear hp hne hfew hlt hl1 hx hxn hpm hpm2 hcap
    have HLO := hide hlo
    clear hlo
    gi_wp2
    refine leaves_marks w00.heap.size (fun W => NodeAt W (fun _ => False) d x.g x.bx x.ls ∧ Below w00.heap.size w00 W) (fun W D h hD hW => ⟨h.1.grown (grownBy_putObj' W D (.deferred none)) (fun r e => by cases e; exact ⟨_, hW, rfl⟩), below_row h.2 (grownBy_putObj' W D (.deferred none)) (fun r e => by cases e; exact hD)⟩) (fun W h => ⟨_, results_tmp rfl _ _ _, d, x, rfl, h.1, HPM2.out, h.2⟩) Ds w HLO.out HMK.out ⟨HXN.out, HBL.out⟩
end Go.Proofs.YtfkgjbdeicggaaaGreat
