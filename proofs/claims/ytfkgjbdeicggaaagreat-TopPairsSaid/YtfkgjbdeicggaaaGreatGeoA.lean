/-
  The geometry's small functions, walked: each returns what the plain function says; memory that was there stays as it was.
-/
import Derived.Test.YtfkgjbdeicggaaaGreatRows
import Derived.Test.YtfkgjbdeicggaaaGreatPlainAll
import Derived.WalkKit
import Derived.WalkSpells
import Derived.WalkLawsBesides
import Derived.Below
namespace Go.Proofs.YtfkgjbdeicggaaaGreat
open Go.RowKit Go.Proofs.PlGeom

theorem hide {p : Prop} (h : p) : Hid p := h
theorem ret_bool {a b : Bool} (h : a = b) : Ending.returned (.bool a) = .returned (.bool b) := by rw [h]
theorem ret_int {k : IntKind} {a b : Int} (h : a = b) : Ending.returned (.int k a) = .returned (.int k b) := by rw [h]
theorem bto {a b c : World} (h : Below a.heap.size a b) (k : Below b.heap.size b c) : Below a.heap.size a c := h.trans (k.mono h.size)
theorem bcell {W w1 : World} (hb : Below W.heap.size W w1) : (∀ b o, b < W.heap.size → w1.cell? ⟨b, o, none⟩ = W.cell? ⟨b, o, none⟩) ∧ (∀ b o, b < W.heap.size → w1.frozen? ⟨b, o, none⟩ = W.frozen? ⟨b, o, none⟩) :=
  ⟨fun b o h => hb.cell (p := ⟨b, o, none⟩) h, fun b o h => hb.frozen (p := ⟨b, o, none⟩) h⟩

def vP (p : Pt) : Value := .agg #[.int .i64 p.x, .int .i64 p.y]
def vS (s : Sg) : Value := .agg #[.int .i64 s.a.x, .int .i64 s.a.y, .int .i64 s.b.x, .int .i64 s.b.y]

set_option maxHeartbeats 400000 in
theorem isnan_any (a : Int) (w : World) : Calls Tryz.prog 118 #[.int .i64 a] w fun e w' => e = .returned (.bool false) ∧ w = w' := by
  go_enter Tryz.func118, Tryz.ntmps118
  go_wp2
  go_ret
  exact ⟨rfl, rfl⟩

set_option maxHeartbeats 400000 in
theorem cmp_any (a b : Int) (w : World) : Calls Tryz.prog 63 #[.int .i64 a, .int .i64 b] w fun e w' => e = .returned (.int .i64 (cmpI a b)) ∧ w = w' := by
  have hc := cmpI_cases a b
  generalize cmpI a b = c at hc
  have HC := hide hc
  rcases hc with ⟨h, rfl⟩ | ⟨h, rfl⟩ | ⟨h, rfl⟩
  · go_enter Tryz.func63, Tryz.ntmps63
    go_wp2_with (go_at_call 118; refine (isnan_any _ _).mono ?_; rintro _ _ ⟨rfl, rfl⟩)
    go_ret
    exact ⟨rfl, rfl⟩
  · go_enter Tryz.func63, Tryz.ntmps63
    go_wp2_with (go_at_call 118; refine (isnan_any _ _).mono ?_; rintro _ _ ⟨rfl, rfl⟩)
    go_ret
    exact ⟨rfl, rfl⟩
  · subst h
    go_enter Tryz.func63, Tryz.ntmps63
    go_wp2_with (go_at_call 118; refine (isnan_any _ _).mono ?_; rintro _ _ ⟨rfl, rfl⟩)
    go_ret
    exact ⟨rfl, rfl⟩

set_option maxHeartbeats 400000 in
theorem to_any (a b c d : Int) (w : World) (h1 : -1000000000000000000 ≤ c - a) (h2 : c - a ≤ 1000000000000000000) (h3 : -1000000000000000000 ≤ d - b) (h4 : d - b ≤ 1000000000000000000) :
    Calls Tryz.prog 126 #[.agg #[.int .i64 a, .int .i64 b], .agg #[.int .i64 c, .int .i64 d]] w fun e w' => e = .returned (.agg #[.int .i64 (c - a), .int .i64 (d - b)]) ∧ Below w.heap.size w w' := by
  go_enter Tryz.func126, Tryz.ntmps126
  go_wp2
  exact bodyPost_ret (v := .agg #[.int .i64 (c - a), .int .i64 (d - b)]) (by simp [results, Tryz.results126, go_sem]) rfl ⟨rfl, (((Below.refl _ _).alloc (Nat.le_refl _) _).alloc (by simp) _).alloc (by simp; omega) _⟩

set_option maxHeartbeats 400000 in
theorem cross_any (a b c d : Int) (w : World) (h1 : -1000000000000000000 ≤ a * d) (h2 : a * d ≤ 1000000000000000000) (h3 : -1000000000000000000 ≤ b * c) (h4 : b * c ≤ 1000000000000000000) :
    Calls Tryz.prog 127 #[.agg #[.int .i64 a, .int .i64 b], .agg #[.int .i64 c, .int .i64 d]] w fun e w' => e = .returned (.int .i64 (a * d - b * c)) ∧ Below w.heap.size w w' := by
  go_enter Tryz.func127, Tryz.ntmps127
  go_wp2
  go_ret
  exact ⟨rfl, ((Below.refl _ _).alloc (Nat.le_refl _) _).alloc (by simp) _⟩

/-- A slice of points, as it lies in memory. -/
def PtsAt (w : World) (g : Nat) (ps : List Pt) : Prop :=
  ∀ i p, ps[i]? = some p → w.cell? ⟨g, i * 2, none⟩ = some (.int .i64 p.x) ∧ w.cell? ⟨g, i * 2 + 1, none⟩ = some (.int .i64 p.y)
theorem PtsAt.below {w w' : World} {g : Nat} {ps : List Pt} (h : PtsAt w g ps) (hg : g < w.heap.size) (hb : Below w.heap.size w w') : PtsAt w' g ps := by
  intro i p hp
  obtain ⟨h1, h2⟩ := h i p hp
  exact ⟨(hb.cell (p := ⟨g, _, none⟩) hg).trans h1, (hb.cell (p := ⟨g, _, none⟩) hg).trans h2⟩
theorem drop_pt (ts : List Pt) (k : Nat) (h : k < ts.length) : ts.drop k = ts[k] :: ts.drop (k + 1) := List.drop_eq_getElem_cons h

set_option maxHeartbeats 1000000 in
theorem near_any (g c : Nat) (ps : List Pt) (w : World) (hn : ps.length ≤ 1000) (hg : g < w.heap.size) (h : PtsAt w g ps) :
    Calls Tryz.prog 74 #[.slice (some ⟨g, 0, none⟩) ps.length c] w fun e w' => e = .returned (.bool (nearL ps)) ∧ Below w.heap.size w w' := by
  obtain ⟨R, hR⟩ : ∃ R, R = nearL ps := ⟨_, rfl⟩
  rw [← hR]
  have HR := hide hR
  have H1 := hide h
  clear h hR
  obtain ⟨n, hnn⟩ : ∃ n, n = ps.length := ⟨_, rfl⟩
  rw [← hnn]
  have hn1 : n ≤ ps.length := by omega
  have hn2 : ps.length ≤ n := by omega
  clear hnn
  go_enter Tryz.func74, Tryz.ntmps74
  go_wp2
  go_loopw [7] (fun i wr => ∃ k : Nat, k ≤ n ∧ i = .int .i64 k ∧ Below w.heap.size w wr ∧ Hid (nearL (ps.drop k) = R)) (fun i _ => n - (intOf i).toNat)
  case atStart => exact ⟨0, Nat.zero_le _, rfl, Below.refl _ _, HR.out.symm⟩
  case round =>
    obtain ⟨k, hk, rfl, hb, hrel⟩ := hrel
    by_cases hlt : k < n
    · have hka : k < ps.length := by omega
      have HA := hide (drop_pt ps k hka)
      obtain ⟨k1, k2⟩ := (H1.out.below hg hb) k ps[k] (List.getElem?_eq_getElem hka)
      generalize ps[k] = p at *
      have HS : Hid ((nearB p && nearL (ps.drop (k + 1))) = R) := by
        have := hrel.out
        rw [HA.out] at this
        exact this
      clear hka HA hrel
      obtain ⟨px, py⟩ := p
      simp only at k1 k2
      have b1 : (0 : Int) ≤ k := by omega
      have b2 : (k : Int) < n := by omega
      cases hp : nearB ⟨px, py⟩ with
      | true =>
        obtain ⟨p1, p2, p3, p4⟩ := (nearB_iff _).1 hp
        simp only at p1 p2 p3 p4
        have m1 : decide (2097152 < max px py) = false := by simp; omega
        have m2 : decide (min px py < -2097152) = false := by simp; omega
        rw [hp] at HS
        clear hp
        go_wp2
        all_goals
          go_roundw
          case rel => exact ⟨k + 1, by omega, by go_num, hb.alloc hb.size _, HS.out⟩
          case measure => simp [intOf]; omega
      | false =>
        have HP : Hid (¬ (-2097152 ≤ px ∧ px ≤ 2097152 ∧ -2097152 ≤ py ∧ py ≤ 2097152)) := by
          intro h
          rw [(nearB_iff ⟨px, py⟩).2 h] at hp
          cases hp
        rw [hp] at HS
        clear hp
        go_wp2
        all_goals first
          | (go_ret; exact ⟨ret_bool HS.out, hb.alloc hb.size _⟩)
          | (exfalso; have := HP.out; omega)
    · have hr : R = true := by rw [← hrel.out, List.drop_eq_nil_of_le (by omega)]; rfl
      have HR2 := hide hr
      clear hr hrel
      go_wp2
      go_ret
      exact ⟨ret_bool HR2.out.symm, hb⟩
