/-
  Comparing lists of violations, of arcs and of lists of texts (ref13.Same, ref16.Same, ref16.Lists), walked.
-/
import Derived.Test.YtpiocaomlifljaaNetZ
import Derived.Test.YtpiocaomlifljaaNetU
import Derived.Test.YtpiocaomlifljaaNetS
import Derived.Test.YtpiocaomlifljaaNetVa
import Derived.Test.YtpiocaomlifljaaNetL
namespace Go.Proofs.Ytpiocaomlifljaa
open Go.RowKit Go.Proofs.PlLex Go.Proofs.PlNet Go.Proofs.PlMap

theorem eqin_ar (a b : Ar) (w : World) : (Op.equalIn 10000 49 (.agg #[.string a.f, .string a.t, .string a.w, .int .i64 a.n]) (.agg #[.string b.f, .string b.t, .string b.w, .int .i64 b.n])).run Try.prog w = .ok (decide (a = b)) w := by
  obtain ⟨f, t, v, n⟩ := a
  obtain ⟨f', t', v', n'⟩ := b
  simp only [show ∀ a b c d a' b' c' d', (decide ((⟨a, b, c, d⟩ : Ar) = ⟨a', b', c', d'⟩)) = (decide (a = a') && (decide (b = b') && (decide (c = c') && decide (d = d')))) from fun a b c d a' b' c' d' => by simp only [Ar.mk.injEq, Bool.decide_and]]
  by_cases h1 : f = f'
  · subst h1
    by_cases h2 : t = t'
    · subst h2
      by_cases h3 : v = v'
      · subst h3
        by_cases h4 : n = n'
        · subst h4
          go_simp
        · have e4 : (n == n') = false := by simpa using h4
          go_simp
      · have e3 : (v.toList == v'.toList) = false := by simpa using (fun h => h3 (toList_inj.1 h))
        have d3 : ¬ v.toList = v'.toList := fun h => h3 (toList_inj.1 h)
        go_simp
    · have e2 : (t.toList == t'.toList) = false := by simpa using (fun h => h2 (toList_inj.1 h))
      have d2 : ¬ t.toList = t'.toList := fun h => h2 (toList_inj.1 h)
      go_simp
  · have e1 : (f.toList == f'.toList) = false := by simpa using (fun h => h1 (toList_inj.1 h))
    have d1 : ¬ f.toList = f'.toList := fun h => h1 (toList_inj.1 h)
    go_simp
theorem cell_lt2 {w : World} {a : Addr} {v : Value} (h : w.cell? a = some v) : a.block < w.heap.size := World.block_lt_of_cell? w a h
theorem take_next {α : Type} {a b : List α} {k : Nat} {x : α} (ha : a[k]? = some x) (hb : b[k]? = some x) (h : a.take k = b.take k) : a.take (k + 1) = b.take (k + 1) := by
  rw [List.take_add_one, List.take_add_one, ha, hb, h]
theorem take_all {α : Type} {a b : List α} (h : a.length = b.length) (e : a.take a.length = b.take a.length) : a = b := by
  rw [List.take_length, h, List.take_length] at e
  exact e
theorem one_strs {W : World} {b : Nat} {s : ByteArray} (h : W.cell? ⟨b, 0, none⟩ = some (.string s)) : StS W (.slice (some ⟨b, 0, none⟩) 1 1) [s] := by
  refine ⟨_, 1, rfl, Nat.le_refl _, .inr ⟨b, 0, rfl, cell_lt2 h, fun i x hi => ?_⟩⟩
  cases i with
  | zero => simp at hi; subst hi; exact h
  | succ i => simp at hi

set_option maxRecDepth 100000 in
set_option maxHeartbeats 8000000 in
theorem samearcs_any (a b : List Ar) (va vb : Value) (w : World) (ha : ArS w va a) (hb : ArS w vb b) (la : a.length ≤ 1000000000) :
    Calls Try.prog 15 #[va, vb] w fun e w' => e = .returned (.bool (decide (a = b))) ∧ Below w.heap.size w w' := by
  obtain ⟨R, hR⟩ : ∃ R, decide (a = b) = R := ⟨_, rfl⟩
  rw [hR]
  have HRt := hide (show a = b → true = R from fun h => by rw [← hR, decide_eq_true h])
  have HRf := hide (show a ≠ b → false = R from fun h => by rw [← hR, decide_eq_false h])
  obtain ⟨A, ca, rfl, hA⟩ := ha
  obtain ⟨B, cb, rfl, hB⟩ := hb
  have HA := hide (fun h => hA.resolve_left h)
  have HB := hide (fun h => hB.resolve_left h)
  clear hA hB hR
  go_enter Try.func15, Try.ntmps15
  by_cases hlen : a.length = b.length
  · have l1 : ((a.length : Int) != (b.length : Int)) = false := by simp; omega
    have l2 : (a.length : Int) = b.length := by omega
    have HLE := hide hlen
    have HL2 := hide l2
    clear hlen l2
    go_wp2_with fail
    go_loopw [5] (fun i wr => ∃ k : Nat, k ≤ a.length ∧ i = .int .i64 k ∧ Hid (a.take k = b.take k) ∧ Hid (Below w.heap.size w wr)) (fun i _ => a.length - (intOf i).toNat)
    case atStart => exact ⟨0, Nat.zero_le _, rfl, rfl, Below.refl _ _⟩
    case round =>
      obtain ⟨k, hk, rfl, ht, hb⟩ := hrel
      by_cases hlt : k < a.length
      · obtain ⟨g, o, rfl, hg, hp⟩ := HA.out (by intro e; rw [e] at hlt; simp at hlt)
        obtain ⟨g2, o2, rfl, hg2, hp2⟩ := HB.out (by intro e; have := HLE.out; rw [e] at this; rw [this] at hlt; simp at hlt)
        have kx := List.getElem?_eq_getElem hlt
        have ky := List.getElem?_eq_getElem (show k < b.length by have := HLE.out; omega)
        generalize a[k] = x at *
        generalize b[k] = y at *
        have k0 : (0 : Int) ≤ k := by omega
        have k1 : (k : Int) < a.length := by omega
        have k2 : (k : Int) < b.length := by have := HLE.out; omega
        have HBB := hide hb.out
        have hbr := bto hb.out (below_drew wr)
        have HT := hide (fun (e : x = y) => take_next kx (by rw [e]; exact ky) ht.out)
        have HX := hide (show x ≠ y → a ≠ b from fun h e => h (Option.some.inj (by rw [← kx, ← ky, e])))
        have X0 : ∀ u : Gls w, u.w.cell? ⟨g, o + k * 4, none⟩ = some (.string x.f) := fun u => (u.2.cell (p := ⟨g, _, none⟩) hg).trans (hp k x kx).1
        have X1 : ∀ u : Gls w, u.w.cell? ⟨g, o + k * 4 + 1, none⟩ = some (.string x.t) := fun u => (u.2.cell (p := ⟨g, _, none⟩) hg).trans (hp k x kx).2.1
        have X2 : ∀ u : Gls w, u.w.cell? ⟨g, o + k * 4 + 2, none⟩ = some (.string x.w) := fun u => (u.2.cell (p := ⟨g, _, none⟩) hg).trans (hp k x kx).2.2.1
        have X3 : ∀ u : Gls w, u.w.cell? ⟨g, o + k * 4 + 3, none⟩ = some (.int .i64 x.n) := fun u => (u.2.cell (p := ⟨g, _, none⟩) hg).trans (hp k x kx).2.2.2
        have Y0 : ∀ u : Gls w, u.w.cell? ⟨g2, o2 + k * 4, none⟩ = some (.string y.f) := fun u => (u.2.cell (p := ⟨g2, _, none⟩) hg2).trans (hp2 k y ky).1
        have Y1 : ∀ u : Gls w, u.w.cell? ⟨g2, o2 + k * 4 + 1, none⟩ = some (.string y.t) := fun u => (u.2.cell (p := ⟨g2, _, none⟩) hg2).trans (hp2 k y ky).2.1
        have Y2 : ∀ u : Gls w, u.w.cell? ⟨g2, o2 + k * 4 + 2, none⟩ = some (.string y.w) := fun u => (u.2.cell (p := ⟨g2, _, none⟩) hg2).trans (hp2 k y ky).2.2.1
        have Y3 : ∀ u : Gls w, u.w.cell? ⟨g2, o2 + k * 4 + 3, none⟩ = some (.int .i64 y.n) := fun u => (u.2.cell (p := ⟨g2, _, none⟩) hg2).trans (hp2 k y ky).2.2.2
        have EQ : ∀ w : World, (Op.equalIn 10000 49 (.agg #[.string x.f, .string x.t, .string x.w, .int .i64 x.n]) (.agg #[.string y.f, .string y.t, .string y.w, .int .i64 y.n])).run Try.prog w = .ok (decide (x = y)) w := fun w => eqin_ar x y w
        have HKL := hide (show k + 1 ≤ a.length from hlt)
        have HMS := hide (show a.length - (k + 1) < a.length - k from by omega)
        have YN : Nonempty (Gls w) := ⟨⟨_, hbr⟩⟩
        clear hp hp2 kx ky ht hb hlt hk
        by_cases exy : x = y
        · have HT2 := hide (HT.out exy)
          clear HT HX
          rw [decide_eq_true exy] at EQ
          go_wp2_with fail
          refine wp_region_quietW (J := Gls w) Gls.w ⟨_, hbr⟩ rfl (by kernel_rfl) (by kernel_rfl) ?_
          repeat (go_big_quiet_step (fail))
          refine wpQuiet_nil ?_
          rintro w9 ⟨u, rfl⟩
          have hu : Below w.heap.size w u.w := u.2
          generalize u.w = wq at *
          go_wp2_with fail
          refine ⟨⟨k + 1, HKL.out, by go_num, HT2, hide hu⟩, ?_⟩
          have := HMS.out
          simp [intOf]; omega
        · have HZ := hide (HRf.out (HX.out exy))
          clear HT HX
          rw [decide_eq_false exy] at EQ
          go_wp2_with fail
          refine wp_region_quietW (J := Gls w) Gls.w ⟨_, hbr⟩ rfl (by kernel_rfl) (by kernel_rfl) ?_
          repeat (go_big_quiet_step (fail))
          refine wpQuiet_nil ?_
          rintro w9 ⟨u, rfl⟩
          have hu := hide (show Below w.heap.size w u.w from u.2)
          generalize u.w = wq at *
          go_wp2_with fail
          go_ret
          exact ⟨by rw [HZ.out]; rfl, hu.out⟩
      · obtain rfl : k = a.length := by omega
        have HZ := hide (HRt.out (take_all HLE.out ht.out))
        have HBB := hide hb.out
        clear ht hb hlt
        go_wp2_with fail
        go_ret
        exact ⟨by rw [HZ.out]; rfl, HBB.out⟩
  · have l1 : ((a.length : Int) != (b.length : Int)) = true := by simp; omega
    have l2 : ¬ (a.length : Int) = b.length := by omega
    have HZ := hide (HRf.out (fun e => hlen (by rw [e])))
    clear hlen
    go_wp2_with fail
    go_ret
    exact ⟨by rw [HZ.out]; rfl, Below.refl _ _⟩

set_option maxRecDepth 100000 in
set_option maxHeartbeats 8000000 in
theorem lists_any (a b : List (List BA)) (va vb : Value) (w : World) (ha : GrS w va a) (hb : GrS w vb b) (la : a.length ≤ 1000000000) (ma : ∀ r ∈ a, r.length ≤ maxLen) (mb : ∀ r ∈ b, r.length ≤ maxLen) :
    Calls Try.prog 18 #[va, vb] w fun e w' => e = .returned (.bool (decide (a = b))) ∧ Below w.heap.size w w' := by
  obtain ⟨R, hR⟩ : ∃ R, decide (a = b) = R := ⟨_, rfl⟩
  rw [hR]
  have HRt := hide (show a = b → true = R from fun h => by rw [← hR, decide_eq_true h])
  have HRf := hide (show a ≠ b → false = R from fun h => by rw [← hR, decide_eq_false h])
  obtain ⟨A, ca, rfl, _, hA⟩ := ha
  obtain ⟨B, cb, rfl, _, hB⟩ := hb
  have HA := hide (fun h => hA.resolve_left h)
  have HB := hide (fun h => hB.resolve_left h)
  clear hA hB hR
  go_enter Try.func18, Try.ntmps18
  by_cases hlen : a.length = b.length
  · have l1 : ((a.length : Int) != (b.length : Int)) = false := by simp; omega
    have l2 : (a.length : Int) = b.length := by omega
    have HLE := hide hlen
    have HL2 := hide l2
    clear hlen l2
    go_wp2_with fail
    go_loopw [5] (fun i wr => ∃ k : Nat, k ≤ a.length ∧ i = .int .i64 k ∧ Hid (a.take k = b.take k) ∧ Hid (Below w.heap.size w wr)) (fun i _ => a.length - (intOf i).toNat)
    case atStart => exact ⟨0, Nat.zero_le _, rfl, rfl, Below.refl _ _⟩
    case round =>
      obtain ⟨k, hk, rfl, ht, hb⟩ := hrel
      by_cases hlt : k < a.length
      · obtain ⟨g, o, rfl, hg, hp⟩ := HA.out (by intro e; rw [e] at hlt; simp at hlt)
        obtain ⟨g2, o2, rfl, hg2, hp2⟩ := HB.out (by intro e; have := HLE.out; rw [e] at this; rw [this] at hlt; simp at hlt)
        have kx := List.getElem?_eq_getElem hlt
        have ky := List.getElem?_eq_getElem (show k < b.length by have := HLE.out; omega)
        generalize a[k] = x at *
        generalize b[k] = y at *
        have k0 : (0 : Int) ≤ k := by omega
        have k1 : (k : Int) < a.length := by omega
        have k2 : (k : Int) < b.length := by have := HLE.out; omega
        have HBB := hide hb.out
        have hbr := bto hb.out (below_drew wr)
        have HT := hide (fun (e : x = y) => take_next kx (by rw [e]; exact ky) ht.out)
        have HX := hide (show x ≠ y → a ≠ b from fun h e => h (Option.some.inj (by rw [← kx, ← ky, e])))
        obtain ⟨xv, hx1, hx2⟩ := hp k x kx
        obtain ⟨yv, hy1, hy2⟩ := hp2 k y ky
        have X0 : ∀ u : Gls w, u.w.cell? ⟨g, o + k, none⟩ = some xv := fun u => (u.2.cell (p := ⟨g, _, none⟩) hg).trans hx1
        have Y0 : ∀ u : Gls w, u.w.cell? ⟨g2, o2 + k, none⟩ = some yv := fun u => (u.2.cell (p := ⟨g2, _, none⟩) hg2).trans hy1
        have C := hide (fun u : Gls w => ids_any x y xv yv u.w (hx2.below u.2) (hy2.below u.2) (ma x (List.mem_of_getElem? kx)) (mb y (List.mem_of_getElem? ky)))
        obtain ⟨xa, xc, rfl, _⟩ := hx2
        obtain ⟨ya, yc, rfl, _⟩ := hy2
        clear hx1 hy1
        have HKL := hide (show k + 1 ≤ a.length from hlt)
        have HMS := hide (show a.length - (k + 1) < a.length - k from by omega)
        have YN : Nonempty (Gls w) := ⟨⟨_, hbr⟩⟩
        clear hp hp2 kx ky ht hb hlt hk
        by_cases exy : x = y
        · have HT2 := hide (HT.out exy)
          clear HT HX
          rw [decide_eq_true exy] at C
          clear exy
          go_wp2_with fail
          refine wp_region_quietW (J := Gls w) Gls.w ⟨_, hbr⟩ rfl (by kernel_rfl) (by kernel_rfl) ?_
          repeat (go_big_quiet_step (((with_reducible refine (C.out _).mono ?_); rintro _ w8 ⟨rfl, n8, rfl⟩; exact ⟨rfl, Gls.go _ (below_drewN _ n8)⟩)))
          refine wpQuiet_nil ?_
          rintro w9 ⟨u, rfl⟩
          have hu : Below w.heap.size w u.w := u.2
          generalize u.w = wq at *
          go_wp2_with fail
          refine ⟨⟨k + 1, HKL.out, by go_num, HT2, hide hu⟩, ?_⟩
          have := HMS.out
          simp [intOf]; omega
        · have HZ := hide (HRf.out (HX.out exy))
          clear HT HX
          rw [decide_eq_false exy] at C
          clear exy
          go_wp2_with fail
          refine wp_region_quietW (J := Gls w) Gls.w ⟨_, hbr⟩ rfl (by kernel_rfl) (by kernel_rfl) ?_
          repeat (go_big_quiet_step (((with_reducible refine (C.out _).mono ?_); rintro _ w8 ⟨rfl, n8, rfl⟩; exact ⟨rfl, Gls.go _ (below_drewN _ n8)⟩)))
          refine wpQuiet_nil ?_
          rintro w9 ⟨u, rfl⟩
          have hu := hide (show Below w.heap.size w u.w from u.2)
          generalize u.w = wq at *
          go_wp2_with fail
          go_ret
          exact ⟨by rw [HZ.out]; rfl, hu.out⟩
      · obtain rfl : k = a.length := by omega
        have HZ := hide (HRt.out (take_all HLE.out ht.out))
        have HBB := hide hb.out
        clear ht hb hlt
        go_wp2_with fail
        go_ret
        exact ⟨by rw [HZ.out]; rfl, HBB.out⟩
  · have l1 : ((a.length : Int) != (b.length : Int)) = true := by simp; omega
    have l2 : ¬ (a.length : Int) = b.length := by omega
    have HZ := hide (HRf.out (fun e => hlen (by rw [e])))
    clear hlen
    go_wp2_with fail
    go_ret
    exact ⟨by rw [HZ.out]; rfl, Below.refl _ _⟩

set_option maxRecDepth 100000 in
set_option maxHeartbeats 8000000 in
theorem samevi_any (a b : List (Int × BA)) (va vb : Value) (w : World) (ha : ViS w va a) (hb : ViS w vb b) (la : a.length ≤ 1000000000) :
    Calls Try.prog 12 #[va, vb] w fun e w' => e = .returned (.bool (decide (a = b))) ∧ Below w.heap.size w w' := by
  obtain ⟨R, hR⟩ : ∃ R, decide (a = b) = R := ⟨_, rfl⟩
  rw [hR]
  have HRt := hide (show a = b → true = R from fun h => by rw [← hR, decide_eq_true h])
  have HRf := hide (show a ≠ b → false = R from fun h => by rw [← hR, decide_eq_false h])
  obtain ⟨A, ca, rfl, hA⟩ := ha
  obtain ⟨B, cb, rfl, hB⟩ := hb
  have HA := hide (fun h => hA.resolve_left h)
  have HB := hide (fun h => hB.resolve_left h)
  clear hA hB hR
  go_enter Try.func12, Try.ntmps12
  by_cases hlen : a.length = b.length
  · have l1 : ((a.length : Int) != (b.length : Int)) = false := by simp; omega
    have l2 : (a.length : Int) = b.length := by omega
    have HLE := hide hlen
    have HL2 := hide l2
    clear hlen l2
    go_wp2_with fail
    go_loopw [5] (fun i wr => ∃ k : Nat, k ≤ a.length ∧ i = .int .i64 k ∧ Hid (a.take k = b.take k) ∧ Hid (Below w.heap.size w wr)) (fun i _ => a.length - (intOf i).toNat)
    case atStart => exact ⟨0, Nat.zero_le _, rfl, rfl, Below.refl _ _⟩
    case round =>
      obtain ⟨k, hk, rfl, ht, hb⟩ := hrel
      by_cases hlt : k < a.length
      · obtain ⟨g, o, rfl, hg, hp⟩ := HA.out (by intro e; rw [e] at hlt; simp at hlt)
        obtain ⟨g2, o2, rfl, hg2, hp2⟩ := HB.out (by intro e; have := HLE.out; rw [e] at this; rw [this] at hlt; simp at hlt)
        have kx := List.getElem?_eq_getElem hlt
        have ky := List.getElem?_eq_getElem (show k < b.length by have := HLE.out; omega)
        generalize a[k] = x at *
        generalize b[k] = y at *
        have k0 : (0 : Int) ≤ k := by omega
        have k1 : (k : Int) < a.length := by omega
        have k2 : (k : Int) < b.length := by have := HLE.out; omega
        have HBB := hide hb.out
        have hbr := bto hb.out (below_drew wr)
        have HT := hide (fun (e : x = y) => take_next kx (by rw [e]; exact ky) ht.out)
        have HX := hide (show x ≠ y → a ≠ b from fun h e => h (Option.some.inj (by rw [← kx, ← ky, e])))
        obtain ⟨b1, x0, x1, x2, x3, x4⟩ := hp k x kx
        obtain ⟨b2, y0, y1, y2, y3, y4⟩ := hp2 k y ky
        obtain ⟨xk, xi⟩ := x
        obtain ⟨yk, yi⟩ := y
        have X0 : ∀ u : Gls w, u.w.cell? ⟨g, o + k * 3, none⟩ = some (.string ⟨#[]⟩) := fun u => (u.2.cell (p := ⟨g, _, none⟩) hg).trans x0
        have X1 : ∀ u : Gls w, u.w.cell? ⟨g, o + k * 3 + 1, none⟩ = some (.int .i64 xk) := fun u => (u.2.cell (p := ⟨g, _, none⟩) hg).trans x1
        have X2 : ∀ u : Gls w, u.w.cell? ⟨g, o + k * 3 + 2, none⟩ = some (.slice (some ⟨b1, 0, none⟩) 1 1) := fun u => (u.2.cell (p := ⟨g, _, none⟩) hg).trans x2
        have Y0 : ∀ u : Gls w, u.w.cell? ⟨g2, o2 + k * 3, none⟩ = some (.string ⟨#[]⟩) := fun u => (u.2.cell (p := ⟨g2, _, none⟩) hg2).trans y0
        have Y1 : ∀ u : Gls w, u.w.cell? ⟨g2, o2 + k * 3 + 1, none⟩ = some (.int .i64 yk) := fun u => (u.2.cell (p := ⟨g2, _, none⟩) hg2).trans y1
        have Y2 : ∀ u : Gls w, u.w.cell? ⟨g2, o2 + k * 3 + 2, none⟩ = some (.slice (some ⟨b2, 0, none⟩) 1 1) := fun u => (u.2.cell (p := ⟨g2, _, none⟩) hg2).trans y2
        have C := hide (fun u : Gls w => ids_any [xi] [yi] _ _ u.w (one_strs (u.2.cell (p := ⟨b1, _, none⟩) x3 |>.trans x4)) (one_strs (u.2.cell (p := ⟨b2, _, none⟩) y3 |>.trans y4)) (by simp [maxLen]) (by simp [maxLen]))
        clear x0 x1 x2 x3 x4 y0 y1 y2 y3 y4
        have HKL := hide (show k + 1 ≤ a.length from hlt)
        have HMS := hide (show a.length - (k + 1) < a.length - k from by omega)
        have YN : Nonempty (Gls w) := ⟨⟨_, hbr⟩⟩
        clear hp hp2 kx ky ht hb hlt hk
        by_cases ek : xk = yk
        · subst ek
          by_cases ei : xi = yi
          · have HT2 := hide (HT.out (by rw [ei]))
            clear HT HX
            rw [decide_eq_true (show [xi] = [yi] by rw [ei])] at C
            clear ei
            go_wp2_with fail
            refine wp_region_quietW (J := Gls w) Gls.w ⟨_, hbr⟩ rfl (by kernel_rfl) (by kernel_rfl) ?_
            repeat (go_big_quiet_step (((with_reducible refine (C.out _).mono ?_); rintro _ w8 ⟨rfl, n8, rfl⟩; exact ⟨rfl, Gls.go _ (below_drewN _ n8)⟩)))
            refine wpQuiet_nil ?_
            rintro w9 ⟨u, rfl⟩
            have hu : Hid (Below w.heap.size w u.w) := hide (show Below w.heap.size w u.w from u.2)
            generalize u.w = wq at *
            go_wp2_with fail
            refine ⟨⟨k + 1, HKL.out, by go_num, HT2, hu⟩, ?_⟩
            have := HMS.out
            simp [intOf]; omega
          · have HZ := hide (HRf.out (HX.out (fun e => ei (congrArg Prod.snd e))))
            clear HT HX
            rw [decide_eq_false (show ¬ [xi] = [yi] from fun e => ei (by simpa using e))] at C
            clear ei
            go_wp2_with fail
            refine wp_region_quietW (J := Gls w) Gls.w ⟨_, hbr⟩ rfl (by kernel_rfl) (by kernel_rfl) ?_
            repeat (go_big_quiet_step (((with_reducible refine (C.out _).mono ?_); rintro _ w8 ⟨rfl, n8, rfl⟩; exact ⟨rfl, Gls.go _ (below_drewN _ n8)⟩)))
            refine wpQuiet_nil ?_
            rintro w9 ⟨u, rfl⟩
            have hu : Hid (Below w.heap.size w u.w) := hide (show Below w.heap.size w u.w from u.2)
            generalize u.w = wq at *
            go_wp2_with fail
            go_ret
            exact ⟨by rw [HZ.out]; rfl, hu.out⟩
        · have HZ := hide (HRf.out (HX.out (fun e => ek (congrArg Prod.fst e))))
          have e1 : (xk == yk) = false := by simpa using ek
          have e2 : (xk != yk) = true := by simpa using ek
          clear HT HX
          go_wp2_with fail
          refine wp_region_quietW (J := Gls w) Gls.w ⟨_, hbr⟩ rfl (by kernel_rfl) (by kernel_rfl) ?_
          repeat (go_big_quiet_step (((with_reducible refine (C.out _).mono ?_); rintro _ w8 ⟨rfl, n8, rfl⟩; exact ⟨rfl, Gls.go _ (below_drewN _ n8)⟩)))
          refine wpQuiet_nil ?_
          rintro w9 ⟨u, rfl⟩
          have hu : Hid (Below w.heap.size w u.w) := hide (show Below w.heap.size w u.w from u.2)
          generalize u.w = wq at *
          go_wp2_with fail
          go_ret
          exact ⟨by rw [HZ.out]; rfl, hu.out⟩
      · obtain rfl : k = a.length := by omega
        have HZ := hide (HRt.out (take_all HLE.out ht.out))
        have HBB := hide hb.out
        clear ht hb hlt
        go_wp2_with fail
        go_ret
        exact ⟨by rw [HZ.out]; rfl, HBB.out⟩
  · have l1 : ((a.length : Int) != (b.length : Int)) = true := by simp; omega
    have l2 : ¬ (a.length : Int) = b.length := by omega
    have HZ := hide (HRf.out (fun e => hlen (by rw [e])))
    clear hlen
    go_wp2_with fail
    go_ret
    exact ⟨by rw [HZ.out]; rfl, Below.refl _ _⟩
end Go.Proofs.Ytpiocaomlifljaa
