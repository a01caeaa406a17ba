/-
  The lexer's Lex, walked: it returns what 'lex' says.
-/
import Derived.Test.YtoodmhlefaepaaaGreatLexM
import Derived.Shelf.RegionOpen
import Derived.RangeFuncBox
namespace Go.Proofs.YtoodmhlefaepaaaGreat
open Go.RowKit Go.Proofs.PlLex
attribute [local go_sem] Oper.semAt_some

theorem iter_stops (n : Nat) (hn : 1 ≤ n) (bt bc ba : Nat) (s : ByteArray) (hs : s.size ≤ 1000000) (w : World) (hI : Iter s bt bc ba w) :
    SeqStopsK Fence.wide n Tryz.prog 70 #[.pointer (some ⟨bt, 0, none⟩), .pointer (some ⟨ba, 0, none⟩)] (fun x : Fd => #[x.enc]) Kp (CameAll s.data.toList) (Came s.data.toList) (s.size + 1) w :=
  fun l J Jx W hW hJ _ hY h0 => iter_in n hn l bt bc ba s hs J Jx W hJ hY (hI.below hW) h0

theorem Kp.of_grown {W W' : World} {row : Option Nat} (hg : W.grownBy W' row) (h : ∀ (b : Nat) (cs : Array Value) (t : TypeId) (fr : Nat × Nat), (t = 9 ∨ t = 117 ∨ t = 119 ∨ t = 100) → W.heap[b]? = some (.cells cs t fr) → some b ≠ row) : Kp W W' :=
  ⟨hg.size, fun b cs t fr ht hb => (hg.block b (Array.getElem?_eq_some_iff.1 hb).1 (h b cs t fr ht hb)).trans hb⟩
theorem Kp.alloc (W : World) (o : Obj) : Kp W (W.alloc o) := Kp.of_grown (World.grownBy_alloc W o none) (fun _ _ _ _ _ _ => by simp)
theorem Kp.putObj (W : World) (l : Nat) (o o' : Obj) (hl : W.heap[l]? = some o) (ho : o.isCells = false) : Kp W (W.putObj l o') :=
  Kp.of_grown (grownBy_putObj' W l o') (fun b cs t fr _ hb e => by cases e; rw [hb] at hl; cases hl; cases ho)
theorem Kp.set {W : World} {B : Nat} {t : TypeId} {u : Value} (h : Boxed W B t u) (ht : ¬ (t = 9 ∨ t = 117 ∨ t = 119 ∨ t = 100)) (v : Value) : Kp W (W.setCell ⟨B, 0, none⟩ v) :=
  Kp.of_grown (grownBy_setCell' W B v) (fun b cs t' fr ht' hb e => by
    cases e
    have := (show W.heap[B]? = _ from h).symm.trans hb
    simp at this
    exact ht (this.2.1 ▸ ht'))
theorem Kp.append {W w1 : World} {n₀ k : Nat} {v : Value} {xs : List Value} (hr : W.ownsRow n₀ 98 3 v k xs) (hg : W.grownBy w1 v.ownBlock) : Kp W w1 :=
  Kp.of_grown hg (fun b cs t fr ht hb e => by
    rcases hr.2 with ⟨rfl, _⟩ | ⟨g, cap, cur, rfl, _, hgb, _⟩
    · simp [Value.ownBlock] at e
    · obtain rfl : b = g := by simpa [Value.ownBlock] using e
      have := hgb.symm.trans hb
      simp at this
      rcases ht with h | h | h | h <;> rw [h] at this <;> exact absurd this.2.1 (by decide))

theorem ofTok_err (ts : List Tok) (x : Fd) (h : x ∈ ts.map Fd.ofTok) : x.err = 0 := by
  obtain ⟨t, _, rfl⟩ := List.mem_map.1 h
  rfl
theorem ofTok_inj {ts us : List Tok} (h : ts.map Fd.ofTok = us.map Fd.ofTok) : ts = us := by
  induction ts generalizing us with
  | nil => cases us with
    | nil => rfl
    | cons u us => cases h
  | cons t ts ih => cases us with
    | nil => cases h
    | cons u us =>
      simp only [List.map_cons, List.cons.injEq] at h
      rw [ih h.2]
      congr 1
      have := h.1
      cases t; cases u
      simp only [Fd.ofTok, Fd.mk.injEq] at this
      obtain ⟨rfl, rfl, rfl, _⟩ := this
      rfl
theorem snoc_inj {α : Type} {us vs : List α} {a b : α} (h : us ++ [a] = vs ++ [b]) : us = vs ∧ a = b := by
  have h1 := List.append_inj' h rfl
  exact ⟨h1.1, by simpa using h1.2⟩

theorem all_of (l : L) (ts : List Tok) (h : CameAll l (ts.map Fd.ofTok)) : scan 0 0 l = (ts, none) := by
  rcases h with ⟨us, h1, h2⟩ | ⟨us, x, h1, h2, _⟩
  · rw [ofTok_inj h1]; exact h2
  · exact absurd (ofTok_err ts x (by rw [h1]; simp)) h2
theorem came_err (l : L) (ts : List Tok) (x : Fd) (h : Came l (ts.map Fd.ofTok ++ [x])) (hx : x.err ≠ 0) : scan 0 0 l = (ts, some (x.err, x.off)) := by
  rcases h with ⟨us, vs, r, h1, _⟩ | ⟨us, y, h1, _, h2⟩
  · exact absurd (ofTok_err us x (by rw [← h1]; simp)) hx
  · obtain ⟨h3, rfl⟩ := snoc_inj h1
    rw [ofTok_inj h3]
    exact h2
theorem came_tok (l : L) (ts : List Tok) (x : Fd) (h : Came l (ts.map Fd.ofTok ++ [x])) (hx : x.err = 0) : ∃ us r, scan 0 0 l = (ts ++ ⟨x.kind, x.text, x.off⟩ :: us, r) := by
  rcases h with ⟨us, vs, r, h1, h2⟩ | ⟨us, y, h1, h3, h2⟩
  · have hx' : [x] = [(⟨x.kind, x.text, x.off⟩ : Tok)].map Fd.ofTok := by
      cases x
      simp only at hx
      subst hx
      rfl
    rw [hx', ← List.map_append] at h1
    rw [← ofTok_inj h1] at h2
    refine ⟨vs, r, ?_⟩
    rw [h2]
    simp
  · obtain ⟨_, rfl⟩ := snoc_inj h1
    exact absurd hx h3

/-- What the boxes hold while the loop goes on. -/
structure LexIn (w : World) (pre : List Fd) (ts : List Tok) (v : Value) (W : World) : Prop where
  pre : pre = ts.map Fd.ofTok
  few : ts.length ≤ 5000
  out : Boxed W (w.heap.size + 3) 61 v
  row : W.ownsRow w.heap.size 98 3 v ts.length (cellsL ts)
  r0 : Boxed W w.heap.size 61 (.slice none 0 0)
  r1 : Boxed W (w.heap.size + 1) 25 (.int .i64 0)
  r2 : Boxed W (w.heap.size + 2) 3 (.int .i64 0)
  below : Below w.heap.size w W
structure LexOut (w : World) (pre : List Fd) (ts : List Tok) (x : Fd) (e : Nat) (W : World) : Prop where
  pre : pre = ts.map Fd.ofTok ++ [x]
  few : ts.length ≤ 5000
  r0 : Boxed W w.heap.size 61 (.slice none 0 0)
  r1 : Boxed W (w.heap.size + 1) 25 (.int .i64 (e : Int))
  r2 : Boxed W (w.heap.size + 2) 3 (.int .i64 (x.off : Int))
  below : Below w.heap.size w W
  why : (x.err ≠ 0 ∧ e = x.err) ∨ (x.err = 0 ∧ ts.length = 5000 ∧ e = 2)

theorem boxed_row {X Y : World} {row : Option Nat} {B N : Nat} {t : TypeId} {v : Value} (h : Boxed X B t v) (hg : X.grownBy Y row) (hr : ∀ r, row = some r → N ≤ r ∧ ∃ o : Obj, X.heap[r]? = some o ∧ o.isCells = false) : Boxed Y B t v :=
  h.kept hg (fun e' => by obtain ⟨_, o, ho, hc⟩ := hr B e'.symm; rw [show X.heap[B]? = _ from h] at ho; cases ho; cases hc)
theorem owns_row {X Y : World} {row : Option Nat} {B N k : Nat} {t : TypeId} {v : Value} {xs : List Value} (h : X.ownsRow B t 3 v k xs) (hg : X.grownBy Y row) (hr : ∀ r, row = some r → N ≤ r ∧ ∃ o : Obj, X.heap[r]? = some o ∧ o.isCells = false) : Y.ownsRow B t 3 v k xs := by
  refine h.kept hg ?_
  rcases h.2 with ⟨rfl, _⟩ | ⟨g, cap, cur, rfl, _, hgb, _⟩
  · exact .inl rfl
  · refine .inr fun e' => ?_
    obtain ⟨_, o, ho, hc⟩ := hr g (by simpa [Value.ownBlock] using e'.symm)
    rw [hgb] at ho; cases ho; cases hc

def LexI (w : World) (pre : List Fd) (W : World) : Prop := ∃ ts v, LexIn w pre ts v W
def LexX (w : World) (c : Code) (pre : List Fd) (W : World) : Prop := c = .ret ∧ ∃ ts x e, LexOut w pre ts x e W
theorem lexI_own (w : World) (B : Nat) (hB : w.heap.size ≤ B) : OwnFrom B (LexI w) := by
  rintro pre X Y row ⟨ts, v, h⟩ hg hr
  exact ⟨ts, v, h.pre, h.few, boxed_row h.out hg hr, owns_row h.row hg hr, boxed_row h.r0 hg hr, boxed_row h.r1 hg hr, boxed_row h.r2 hg hr, ownFrom_below (β := Unit) (Nat.le_refl _) hB () X Y row h.below hg hr⟩
theorem lexX_own (w : World) (B : Nat) (hB : w.heap.size ≤ B) (c : Code) : OwnFrom B (LexX w c) := by
  rintro pre X Y row ⟨hc, ts, x, e, h⟩ hg hr
  exact ⟨hc, ts, x, e, h.pre, h.few, boxed_row h.r0 hg hr, boxed_row h.r1 hg hr, boxed_row h.r2 hg hr, ownFrom_below (β := Unit) (Nat.le_refl _) hB () X Y row h.below hg hr, h.why⟩

def fdCells (x : Fd) : Array Value := #[.int .i64 (x.kind : Int), .string ⟨x.text.toArray⟩, .int .i64 (x.off : Int), .int .i64 (x.err : Int)]
theorem Boxed4.new (W : World) (x : Fd) : (W.alloc (.cells (fdCells x) 100)).heap[W.heap.size]? = some (.cells (fdCells x) 100 (0, 0)) := heap_alloc_new W _
theorem tokCells_one (t : Tok) : ∀ u ∈ tokCells t, u.oneCell' = true := by
  intro u hu
  simp [tokCells] at hu
  rcases hu with rfl | rfl | rfl <;> rfl
theorem row_set {W : World} {B n₀ k : Nat} {t : TypeId} {u v : Value} {xs : List Value} (hb : Boxed W B t u) (hte : t ≠ 98) (hr : W.ownsRow n₀ 98 3 v k xs) (u' : Value) : (W.setCell ⟨B, 0, none⟩ u').ownsRow n₀ 98 3 v k xs :=
  hr.kept (grownBy_setCell' W B u') (.inr (hb.not_row hte hr).symm)

set_option maxRecDepth 100000 in
set_option maxHeartbeats 4000000 in
theorem lex_any (s : ByteArray) (w : World) (hs : s.size ≤ 1000000) :
    Calls Tryz.prog 20 #[.string s] w (LexPost w.heap.size s.data.toList w) := by
  by_cases h2 : s.size ≤ 20000
  · refine (callsIn_wide (n := 10)).1 ?_
    refine callsIn_of_wp_marks Tryz.func20 rfl trivial ?_ rfl
    simp only [Tryz.ntmps20, List.size_toArray, List.length_cons, List.length_nil, Nat.reduceAdd, Nat.reduceSub, Array.replicate_succ, Array.replicate_zero, List.push_toArray, List.append_toArray, List.nil_append, List.cons_append]
    have hfw : Fence.wide.fn 40 := trivial
    gi_wp2_with (gi_at_call 40; refine (callsIn_wide.2 (tokens_any s _)).mono ?_; rintro e w' ⟨bt, bc, ba, rfl, hit, hbt, hbc, hba, hb⟩)
    clear hfw
    obtain ⟨i0, hi, hz0, hz1, hz2⟩ := info_parts info_tok
    have HI := hide hi; have HZ0 := hide hz0; have HZ1 := hide hz1; have HZ2 := hide hz2
    clear hi hz0 hz1 hz2
    have b0 := (((Boxed.new w 61 (.slice none 0 0)).alloc (.cells #[.int .i64 0] 25)).alloc (.cells #[.int .i64 0] 3)).alloc (.cells #[.slice none 0 0] 61)
    have b1 := ((Boxed.new (w.alloc (.cells #[.slice none 0 0] 61)) 25 (.int .i64 0)).alloc (.cells #[.int .i64 0] 3)).alloc (.cells #[.slice none 0 0] 61)
    have b2 := (Boxed.new ((w.alloc (.cells #[.slice none 0 0] 61)).alloc (.cells #[.int .i64 0] 25)) 3 (.int .i64 0)).alloc (.cells #[.slice none 0 0] 61)
    have b3 := Boxed.new (((w.alloc (.cells #[.slice none 0 0] 61)).alloc (.cells #[.int .i64 0] 25)).alloc (.cells #[.int .i64 0] 3)) 61 (.slice none 0 0)
    have hB0 : Below w.heap.size w ((((w.alloc (.cells #[.slice none 0 0] 61)).alloc (.cells #[.int .i64 0] 25)).alloc (.cells #[.int .i64 0] 3)).alloc (.cells #[.slice none 0 0] 61)) := ((((Below.refl _ w).alloc (Nat.le_refl _) _).alloc (by simp) _).alloc (by simp; omega) _).alloc (by simp; omega) _
    have hsz : ((((w.alloc (.cells #[.slice none 0 0] 61)).alloc (.cells #[.int .i64 0] 25)).alloc (.cells #[.int .i64 0] 3)).alloc (.cells #[.slice none 0 0] 61)).heap.size = w.heap.size + 4 := by simp
    simp only [World.size_alloc] at b1 b2 b3
    obtain ⟨W0, hW0⟩ : ∃ W0, (((w.alloc (.cells #[.slice none 0 0] 61)).alloc (.cells #[.int .i64 0] 25)).alloc (.cells #[.int .i64 0] 3)).alloc (.cells #[.slice none 0 0] 61) = W0 := ⟨_, rfl⟩
    rw [hW0] at b0 b1 b2 b3 hB0 hsz hb hbt hbc hba
    clear hW0
    have keep : ∀ {b : Nat} {t : TypeId} {v : Value}, Boxed W0 b t v → Boxed w' b t v := fun h => (hb.block _ h.lt).trans h
    have hb' : Below w.heap.size w w' := hB0.trans (hb.mono (by omega))
    have hsz' := hb.size
    have hin : LexI w [] w' := ⟨[], .slice none 0 0, rfl, Nat.zero_le _, keep b3, World.ownsRow_nil _ _ _ _, keep b0, keep b1, keep b2, hb'⟩
    clear b0 b1 b2 b3 keep hB0 hb hbt hbc hba
    unfold iterFn
    refine wpIn_rangeFunc_ownH rfl (by omega) (gf := 70) (lb := #[.pointer (some ⟨bt, 0, none⟩), .pointer (some ⟨ba, 0, none⟩)]) rfl trivial (enters_of Tryz.func70 (by kernel_rfl) rfl)
      (iter_stops 9 (by omega) bt bc ba s hs w' hit) Kp.trans (fun W l o o' _ h1 h2 _ => Kp.putObj W l o o' h1 h2) (Below.refl _ _) (fun _ => rfl)
      (LexI w) (LexX w) (lexI_own w _ hb'.size) (lexX_own w _ hb'.size) hin
      (fun x a' W => ∃ Bx, w.heap.size + 4 ≤ Bx ∧ W.heap[Bx]? = some (.cells (fdCells x) 100 (0, 0)) ∧ a' = { tmps := #[.string s, undef, .pointer (some ⟨w.heap.size, 0, none⟩), .pointer (some ⟨w.heap.size + 1, 0, none⟩), .pointer (some ⟨w.heap.size + 1 + 1, 0, none⟩), .pointer (some ⟨w.heap.size + 1 + 1 + 1, 0, none⟩), .pointer (some ⟨Bx, 0, none⟩), .string s, .int .i64 s.size, .bool (decide (20000 < (s.size : Int))), .string s, .func (.func 70) #[] #[.pointer (some ⟨bt, 0, none⟩), .pointer (some ⟨ba, 0, none⟩)], x.enc, undef, undef, undef, undef, undef, undef, undef, undef, undef, undef, undef, undef, undef, undef, undef, undef, undef, undef, undef, undef, undef, undef], defers := [] })
      (fun x a' _ X Y row hs hg hr => by
        obtain ⟨Bx, e1, e2, e3⟩ := hs
        exact ⟨Bx, e1, (hg.block Bx (Array.getElem?_eq_some_iff.1 e2).1 (fun e => by obtain ⟨_, o, ho, hc⟩ := hr Bx e.symm; rw [e2] at ho; cases ho; cases hc)).trans e2, e3⟩)
      ?assign ?body ?done ?stop
    case assign =>
      rintro l pre x W K ⟨ts, v, h⟩ hK
      unfold Fd.enc
      gi_wp2
      exact hK _ _ ((KeepsOthers.alloc _ _).from _) (Kp.alloc _ _) ⟨ts, v, h.pre, h.few, h.out.alloc _, owns_row (N := 0) h.row (World.grownBy_alloc W _ none) (fun r e => by cases e), h.r0.alloc _, h.r1.alloc _, h.r2.alloc _, h.below.alloc h.below.size _⟩
        ⟨W.heap.size, by have := h.out.lt; omega, Boxed4.new W x, rfl⟩
    case body =>
      rintro l pre x a' W hl ⟨r, hr⟩ ⟨ts, v, h⟩ ⟨Bx, hBx, bX, rfl⟩ hlt
      have g0 : W.cell? ⟨Bx, 0, none⟩ = some (.int .i64 (x.kind : Int)) := cell_of_row W _ 0 _ _ _ bX
      have g1 : W.cell? ⟨Bx, 1, none⟩ = some (.string ⟨x.text.toArray⟩) := cell_of_row W _ 1 _ _ _ bX
      have g2 : W.cell? ⟨Bx, 2, none⟩ = some (.int .i64 (x.off : Int)) := cell_of_row W _ 2 _ _ _ bX
      have g3 : W.cell? ⟨Bx, 3, none⟩ = some (.int .i64 (x.err : Int)) := cell_of_row W _ 3 _ _ _ bX
      have f0 : W.frozen? ⟨w.heap.size, 0, none⟩ = false := h.r0.frozen
      have f1 : W.frozen? ⟨w.heap.size + 1, 0, none⟩ = false := h.r1.frozen
      have f2 : W.frozen? ⟨w.heap.size + 1 + 1, 0, none⟩ = false := h.r2.frozen
      have f3 : W.frozen? ⟨w.heap.size + 1 + 1 + 1, 0, none⟩ = false := h.out.frozen
      have c0 : W.cell? ⟨w.heap.size, 0, none⟩ = _ := h.r0.cell
      have c1 : W.cell? ⟨w.heap.size + 1, 0, none⟩ = _ := h.r1.cell
      have c2 : W.cell? ⟨w.heap.size + 1 + 1, 0, none⟩ = _ := h.r2.cell
      have c3 : W.cell? ⟨w.heap.size + 1 + 1 + 1, 0, none⟩ = _ := h.out.cell
      have hm : Tryz.prog.follows .mixedOrders = true := by kernel_rfl
      have hko : ∀ u, KeepsOthers W (((W.setCell ⟨w.heap.size, 0, none⟩ (.slice none 0 0)).setCell ⟨w.heap.size + 1, 0, none⟩ u).setCell ⟨w.heap.size + 1 + 1, 0, none⟩ (.int .i64 x.off)).drew := fun u => by
        have := ((KeepsOthers.setCell W ⟨w.heap.size, 0, none⟩ (.slice none 0 0)).trans (KeepsOthers.setCell _ ⟨w.heap.size + 1, 0, none⟩ u)).trans (KeepsOthers.setCell _ ⟨w.heap.size + 1 + 1, 0, none⟩ (.int .i64 x.off))
        exact ⟨this.size, this.same⟩
      have hout : ∀ e : Nat, ((x.err ≠ 0 ∧ e = x.err) ∨ (x.err = 0 ∧ ts.length = 5000 ∧ e = 2)) → LexX w .ret (pre ++ [x]) (((W.setCell ⟨w.heap.size, 0, none⟩ (.slice none 0 0)).setCell ⟨w.heap.size + 1, 0, none⟩ (.int .i64 e)).setCell ⟨w.heap.size + 1 + 1, 0, none⟩ (.int .i64 x.off)).drew := fun e he =>
        ⟨rfl, ts, x, e, by rw [h.pre], h.few, ((h.r0.set _).other (by omega) _).other (by omega) _, ((h.r1.other (by omega) _).set _).other (by omega) _, ((h.r2.other (by omega) _).other (by omega) _).set _,
          (((h.below.setCell (p := ⟨w.heap.size, 0, none⟩) (Nat.le_refl _) _).setCell (p := ⟨w.heap.size + 1, 0, none⟩) (by simp) _).setCell (p := ⟨w.heap.size + 1 + 1, 0, none⟩) (by simp; omega) _).drew, he⟩
      have HKO := hide hko
      have HOUT := hide hout
      clear hko hout
      by_cases he : x.err = 0
      · have t3 : ((x.err : Int) != 0) = false := by rw [he]; rfl
        have hv : ∃ A c, v = .slice A ts.length c := by
          rcases h.row.2 with ⟨rfl, h0⟩ | ⟨g, cap, cur, rfl, _⟩
          · exact ⟨none, 0, by rw [h0]⟩
          · exact ⟨_, _, rfl⟩
        obtain ⟨A, c, rfl⟩ := hv
        have HH := hide h
        have HE := hide he
        clear h he
        by_cases h5 : ts.length = 5000
        · have h5' : ((ts.length : Int) == 5000) = true := by rw [beq_iff_eq]; omega
          have H5 := hide h5
          clear h5
          gi_wp2_with fail
          refine wpIn_mono (Q := fun e a2 w2 => e = .normal ∧ a2 = { tmps := #[.string s, undef, .pointer (some ⟨w.heap.size, 0, none⟩), .pointer (some ⟨w.heap.size + 1, 0, none⟩), .pointer (some ⟨w.heap.size + 1 + 1, 0, none⟩), .pointer (some ⟨w.heap.size + 1 + 1 + 1, 0, none⟩), .pointer (some ⟨Bx, 0, none⟩), .string s, .int .i64 s.size, .bool (decide (20000 < (s.size : Int))), .string s, .func (.func 70) #[] #[.pointer (some ⟨bt, 0, none⟩), .pointer (some ⟨ba, 0, none⟩)], x.enc, .bool false, .pointer (some ⟨Bx, 3, none⟩), .int .i64 x.err, .bool false, undef, undef, undef, undef, undef, .bool true, .slice A ts.length c, .int .i64 ts.length, .bool true, .pointer (some ⟨Bx, 0, none⟩), .pointer (some ⟨Bx, 2, none⟩), .int .i64 x.off, undef, undef, undef, undef, undef, undef], defers := [] } ∧ w2 = (((W.setCell ⟨w.heap.size, 0, none⟩ (.slice none 0 0)).setCell ⟨w.heap.size + 1, 0, none⟩ (.int .i64 2)).setCell ⟨w.heap.size + 1 + 1, 0, none⟩ (.int .i64 x.off)).drew) ?_ ?_
          · gi_region_with_o (fail)
            all_goals exact ⟨rfl, rfl, rfl⟩
          · rintro _ _ _ ⟨rfl, rfl, rfl⟩
            gi_wp2
            exact ⟨(HKO.out _).from _, HOUT.out 2 (.inr ⟨HE.out, H5.out, rfl⟩)⟩
        · have h5' : ((ts.length : Int) == 5000) = false := by rw [beq_eq_false_iff_ne]; omega
          have hlt5 : ts.length < 5000 := by have := HH.out.few; omega
          have hm1 : ts.length + 1 ≤ maxLen := by unfold maxLen; omega
          have hb1 : (ts.length + 1) * 32 ≤ 140737488355328 := by omega
          have hrow := HH.out.row.alloc (.cells #[.int .i64 (x.kind : Int), .string ⟨x.text.toArray⟩, .int .i64 (x.off : Int)] 98)
          have HR := hide hrow
          have hne : ¬ (61 = 9 ∨ 61 = 117 ∨ 61 = 119 ∨ 61 = 100) := by decide
          have HNE := hide hne
          have hbs := HH.out.below.size
          clear hrow hne h5
          gi_wp2_with (gi_at_builtin; refine wpListIn_append_own _ rfl (.tmp 29) (.tmp 32) 61 rfl w.heap.size 98 i0 (.agg #[.int .i64 0, .string ⟨#[]⟩, .int .i64 0]) 3 32 Tryz.underlying61 HI.out HZ0.out HZ1.out HZ2.out rfl (by decide) (.slice A ts.length c) ts.length (cellsL ts) rfl HR.out ⟨W.heap.size, 0, none⟩ 1 1 (tokCells ⟨x.kind, x.text, x.off⟩) rfl rfl (fun j u hj => new_cells W (tokCells ⟨x.kind, x.text, x.off⟩) 98 j u hj) (tokCells_one _) hm1 hb1 (by simp; omega) ?_; intro v' w1 hown' hgrow _; obtain ⟨g', cap', rfl⟩ := ownsRow_succ hown'; obtain ⟨hv1, hv2, hr2, hk2, hb2⟩ := HH.out.out.appended (by decide) HH.out.row HH.out.below.size (by omega) hown' hgrow; have hc1 : w1.cell? ⟨w.heap.size + 1 + 1 + 1, 0, none⟩ = _ := hv1.cell; have hf1 : w1.frozen? ⟨w.heap.size + 1 + 1 + 1, 0, none⟩ = false := hv1.frozen)
          have keep : ∀ {B : Nat} {t : TypeId} {u : Value}, Boxed W B t u → t ≠ 98 → B ≠ w.heap.size + 3 → Boxed (w1.setCell ⟨w.heap.size + 3, 0, none⟩ (.slice (some ⟨g', 0, none⟩) (ts.length + 1) cap')) B t u := fun hB hte hne => ((hB.alloc _).kept hgrow (hB.not_row hte HH.out.row)).other hne _
          refine ⟨hk2.from _, ((Kp.alloc _ _).trans (Kp.append HR.out hgrow)).trans (Kp.set hv1 HNE.out _), ts ++ [⟨x.kind, x.text, x.off⟩], .slice (some ⟨g', 0, none⟩) (ts.length + 1) cap', ?_, ?_, hv2, ?_, keep HH.out.r0 (by decide) (by omega), keep HH.out.r1 (by decide) (by omega), keep HH.out.r2 (by decide) (by omega), HH.out.below.trans hb2⟩
          · have hx : x = Fd.ofTok ⟨x.kind, x.text, x.off⟩ := by
              have := HE.out
              cases x
              simp only at this
              subst this
              rfl
            rw [List.map_append, List.map_cons, List.map_nil, ← hx, HH.out.pre]
          · simp; omega
          · rw [cellsL_app, List.length_append]
            exact hr2
      · have t3 : ((x.err : Int) != 0) = true := by rw [bne_iff_ne]; omega
        have HH := hide h
        have HE := hide he
        clear h he
        gi_wp2_with fail
        refine wpIn_mono (Q := fun e a2 w2 => e = .normal ∧ a2 = { tmps := #[.string s, undef, .pointer (some ⟨w.heap.size, 0, none⟩), .pointer (some ⟨w.heap.size + 1, 0, none⟩), .pointer (some ⟨w.heap.size + 1 + 1, 0, none⟩), .pointer (some ⟨w.heap.size + 1 + 1 + 1, 0, none⟩), .pointer (some ⟨Bx, 0, none⟩), .string s, .int .i64 s.size, .bool (decide (20000 < (s.size : Int))), .string s, .func (.func 70) #[] #[.pointer (some ⟨bt, 0, none⟩), .pointer (some ⟨ba, 0, none⟩)], x.enc, .bool true, .pointer (some ⟨Bx, 3, none⟩), .int .i64 x.err, .bool true, .pointer (some ⟨Bx, 3, none⟩), .int .i64 x.err, .pointer (some ⟨Bx, 0, none⟩), .pointer (some ⟨Bx, 2, none⟩), .int .i64 x.off, undef, undef, undef, undef, undef, undef, undef, undef, undef, undef, undef, undef, undef], defers := [] } ∧ w2 = (((W.setCell ⟨w.heap.size, 0, none⟩ (.slice none 0 0)).setCell ⟨w.heap.size + 1, 0, none⟩ (.int .i64 x.err)).setCell ⟨w.heap.size + 1 + 1, 0, none⟩ (.int .i64 x.off)).drew) ?_ ?_
        · gi_region_with_o (fail)
          all_goals exact ⟨rfl, rfl, rfl⟩
        · rintro _ _ _ ⟨rfl, rfl, rfl⟩
          gi_wp2
          exact ⟨(HKO.out _).from _, HOUT.out x.err (.inl ⟨HE.out, rfl⟩)⟩
    case done =>
      rintro D xs W hD hS ⟨ts, v, h⟩ hK
      have hall := all_of _ ts (h.pre ▸ hS)
      have hl := lex_of_none s.data.toList ts (by rw [size_list]; exact h2) hall h.few
      have hv : ∃ A c, v = .slice A ts.length c := by
        rcases h.row.2 with ⟨rfl, h0⟩ | ⟨g, cap, cur, rfl, _⟩
        · exact ⟨none, 0, by rw [h0]⟩
        · exact ⟨_, _, rfl⟩
      obtain ⟨A, c, rfl⟩ := hv
      have f0 : W.frozen? ⟨w.heap.size, 0, none⟩ = false := h.r0.frozen
      have f1 : W.frozen? ⟨w.heap.size + 1, 0, none⟩ = false := h.r1.frozen
      have f2 : W.frozen? ⟨w.heap.size + 1 + 1, 0, none⟩ = false := h.r2.frozen
      have c0 : W.cell? ⟨w.heap.size, 0, none⟩ = _ := h.r0.cell
      have c1 : W.cell? ⟨w.heap.size + 1, 0, none⟩ = _ := h.r1.cell
      have c2 : W.cell? ⟨w.heap.size + 1 + 1, 0, none⟩ = _ := h.r2.cell
      have c3 : W.cell? ⟨w.heap.size + 1 + 1 + 1, 0, none⟩ = _ := h.out.cell
      have HH := hide h
      have HL := hide hl
      have HK := hide hK
      clear h hall hl hS hK
      gi_wp2
      have hko := ((KeepsOthers.setCell W ⟨w.heap.size, 0, none⟩ (.slice A ts.length c)).trans (KeepsOthers.setCell _ ⟨w.heap.size + 1, 0, none⟩ (.int .i64 0))).trans (KeepsOthers.setCell _ ⟨w.heap.size + 1 + 1, 0, none⟩ (.int .i64 0))
      have hK' := hko.same D _ HK.out rfl
      have B0 := ((HH.out.r0.set (.slice A ts.length c)).other (B' := w.heap.size + 1) (by omega) (.int .i64 0)).other (B' := w.heap.size + 1 + 1) (by omega) (.int .i64 0)
      have B1 := ((HH.out.r1.other (B' := w.heap.size) (by omega) (.slice A ts.length c)).set (.int .i64 0)).other (B' := w.heap.size + 1 + 1) (by omega) (.int .i64 0)
      have B2 := ((HH.out.r2.other (B' := w.heap.size) (by omega) (.slice A ts.length c)).other (B' := w.heap.size + 1) (by omega) (.int .i64 0)).set (.int .i64 0)
      have R1 := row_set HH.out.r0 (by decide) HH.out.row (.slice A ts.length c)
      have R2 := row_set (HH.out.r1.other (B' := w.heap.size) (by omega) (.slice A ts.length c)) (by decide) R1 (.int .i64 0)
      have R3 := row_set ((HH.out.r2.other (B' := w.heap.size) (by omega) (.slice A ts.length c)).other (B' := w.heap.size + 1) (by omega) (.int .i64 0)) (by decide) R2 (.int .i64 0)
      have d0 := cell_kept B0.cell (grownBy_putObj' _ D (.deferred none)) (fun r e => by cases e; exact ⟨_, hK', rfl⟩)
      have d1 := cell_kept B1.cell (grownBy_putObj' _ D (.deferred none)) (fun r e => by cases e; exact ⟨_, hK', rfl⟩)
      have d2 := cell_kept B2.cell (grownBy_putObj' _ D (.deferred none)) (fun r e => by cases e; exact ⟨_, hK', rfl⟩)
      have hbel := ((HH.out.below.setCell (p := ⟨w.heap.size, 0, none⟩) (Nat.le_refl _) (.slice A ts.length c)).setCell (p := ⟨w.heap.size + 1, 0, none⟩) (by simp) (.int .i64 0)).setCell (p := ⟨w.heap.size + 1 + 1, 0, none⟩) (by simp; omega) (.int .i64 0)
      refine ⟨by simp, .inl ⟨_, _, rfl, run_takeDeferred hK', ?_⟩⟩
      refine ⟨.tuple #[.slice A ts.length c, .int .i64 0, .int .i64 0], ?_, .slice A ts.length c, by rw [HL.out]; rfl, by rw [HL.out]; exact ownsRow_putObj R3 _ hK' rfl, hbel.trans (belowK_b (w := w) (Nat.le_refl _) _ D _ _ (by have := hb'.size; omega) hK' rfl rfl)⟩
      simp [results, Tryz.f20, go_sem, d0, d1, d2]
    case stop =>
      rintro D c pre W hD hS ⟨rfl, ts, x, e, h⟩ hK
      have hl : lex s.data.toList = ([], e, (x.off : Int)) := by
        have hS' := h.pre ▸ hS
        rcases h.why with ⟨h3, rfl⟩ | ⟨h3, h4, rfl⟩
        · exact lex_of_err _ ts _ _ (by rw [size_list]; exact h2) (came_err _ ts x hS' h3) h.few
        · obtain ⟨us, r, h5⟩ := came_tok _ ts x hS' h3
          exact lex_of_many _ ts _ _ _ (by rw [size_list]; exact h2) h5 h4
      have HL := hide hl
      gi_wp2
      have d0 := cell_kept h.r0.cell (grownBy_putObj' _ D (.deferred none)) (fun r e => by cases e; exact ⟨_, hK, rfl⟩)
      have d1 := cell_kept h.r1.cell (grownBy_putObj' _ D (.deferred none)) (fun r e => by cases e; exact ⟨_, hK, rfl⟩)
      have d2 := cell_kept h.r2.cell (grownBy_putObj' _ D (.deferred none)) (fun r e => by cases e; exact ⟨_, hK, rfl⟩)
      refine ⟨by simp, .inl ⟨_, _, rfl, run_takeDeferred hK, ?_⟩⟩
      refine ⟨.tuple #[.slice none 0 0, .int .i64 (e : Int), .int .i64 (x.off : Int)], ?_, .slice none 0 0, by rw [HL.out], by rw [HL.out]; exact World.ownsRow_nil _ _ _ _, h.below.trans (belowK_b (w := w) (Nat.le_refl _) _ D _ _ (by have := hb'.size; omega) hK rfl rfl)⟩
      simp [results, Tryz.f20, go_sem, d0, d1, d2]
  · go_enter Tryz.func20, Tryz.ntmps20
    go_wp2_with fail
    refine bodyPost_ret (v := .tuple #[.slice none 0 0, .int .i64 2, .int .i64 (-1)]) (by simp [results, Tryz.results20, go_sem]) rfl ?_
    have hl : lex s.data.toList = ([], 2, -1) := by unfold lex; rw [if_pos (by rw [size_list]; omega)]
    refine ⟨.slice none 0 0, by rw [hl]; rfl, by rw [hl]; exact World.ownsRow_nil _ _ _ _, ?_⟩
    exact ((((Below.refl _ w).alloc (Nat.le_refl _) _).alloc (by simp) _).alloc (by simp; omega) _)
