/-
  name.Languages, walked: the languages of the name tags, in order.
-/
import Derived.Test.YtjniicmhndflpaaNamG
import Derived.Test.YtjniicmhndflpaaPlain3
import Derived.RangeFuncBox
namespace Go.Proofs.Ytjniicmhndflpaa
open Go.RowKit Go.Proofs.PlLex Go.Proofs.PlName
attribute [local go_sem] Oper.semAt_some

def strsV (l : List ByteArray) : List Value := l.map Value.string
theorem info_str : (Try.prog.info? 9).map (fun i => (i.zero, i.size, i.bytes)) = some (some (.string ⟨#[]⟩), 1, 16) := by kernel_rfl
theorem st_of_own {W : World} {B c : Nat} {A : Option Addr} {r : List ByteArray} (h : W.ownsRow B 9 1 (.slice A r.length c) r.length (strsV r)) : StS W (.slice A r.length c) r := by
  rcases h.2 with ⟨hv, hn⟩ | ⟨g, cap, cur, hv, _, hg, hc, _⟩
  · obtain rfl := List.length_eq_zero_iff.1 hn
    exact ⟨A, c, rfl, Nat.zero_le _, .inl rfl⟩
  · cases hv
    refine ⟨_, _, rfl, hc, .inr ⟨g, 0, rfl, lt_of_block hg, fun i s hi => ?_⟩⟩
    have := h.cells (g := g) rfl i (.string s) (by simp [strsV, hi])
    have e : (⟨g, 0, none⟩ : Addr).add i = ⟨g, 0 + i, none⟩ := by simp only [Addr.add, Nat.zero_add]; split <;> simp_all
    rw [← e]
    exact this
theorem keepsOthers_b {W W' : World} (h : Below W.heap.size W W') : KeepsOthers W W' := ⟨h.size, fun k _ hk _ => (h.block k (Array.getElem?_eq_some_iff.1 hk).1).trans hk⟩
theorem boxed_kept {X Y : World} {row : Option Nat} {B N : Nat} {t : TypeId} {v : Value} (h : Boxed X B t v) (hg : X.grownBy Y row) (hr : ∀ r, row = some r → N ≤ r ∧ ∃ o : Obj, X.heap[r]? = some o ∧ o.isCells = false) : Boxed Y B t v :=
  h.kept hg (fun e' => by obtain ⟨_, o, ho, hc⟩ := hr B e'.symm; rw [show X.heap[B]? = _ from h] at ho; cases ho; cases hc)
theorem owns_kept {X Y : World} {row : Option Nat} {B N k size : Nat} {t : TypeId} {v : Value} {xs : List Value} (h : X.ownsRow B t size v k xs) (hg : X.grownBy Y row) (hr : ∀ r, row = some r → N ≤ r ∧ ∃ o : Obj, X.heap[r]? = some o ∧ o.isCells = false) : Y.ownsRow B t size v k xs := by
  refine h.kept hg ?_
  rcases h.2 with ⟨rfl, _⟩ | ⟨g, cap, cur, rfl, _, hgb, _⟩
  · exact .inl rfl
  · refine .inr fun e' => ?_
    obtain ⟨_, o, ho, hc⟩ := hr g (by simpa [Value.ownBlock] using e'.symm)
    rw [hgb] at ho; cases ho; cases hc
theorem own_weaken {W : World} {B B' size n : Nat} {e : TypeId} {v : Value} {xs : List Value} (h : W.ownsRow B e size v n xs) (hb : B' ≤ B) : W.ownsRow B' e size v n xs := by
  refine ⟨h.1, ?_⟩
  rcases h.2 with h | ⟨g, cap, cur, h1, h2, h3⟩
  · exact .inl h
  · exact .inr ⟨g, cap, cur, h1, Nat.le_trans hb h2, h3⟩
/-- A round that writes new blocks alone. -/
theorem Kr.grown {B g n₀ : Nat} {W w1 : World} {row : Option Nat} (hB : B < n₀) (hgn : g < n₀) (hg : W.grownBy w1 row) (hr : ∀ r, row = some r → n₀ ≤ r) : Kr B g W w1 :=
  ⟨hg.size, fun b hb o ho _ => (hg.block b (Array.getElem?_eq_some_iff.1 ho).1 (fun e => by have := hr b e.symm; omega)).trans ho⟩

/-- The languages so far, in their box. -/
structure LgI (w : World) (b0 n0 : Nat) (pre : List Tg) (A : Option Addr) (c : Nat) (W : World) : Prop where
  size : n0 ≤ W.heap.size
  box : Boxed W b0 31 (.slice A pre.length c)
  row : W.ownsRow n0 9 1 (.slice A pre.length c) pre.length (strsV (pre.map langO))
  below : Below w.heap.size w W
def LgE (w : World) (b0 n0 : Nat) (pre : List Tg) (W : World) : Prop := ∃ A c, LgI w b0 n0 pre A c W
theorem lgE_own (w : World) (b0 n0 B : Nat) (hB : w.heap.size ≤ B) : OwnFrom B (LgE w b0 n0) := by
  rintro pre X Y row ⟨A, c, h⟩ hg hr
  exact ⟨A, c, Nat.le_trans h.size hg.size, boxed_kept h.box hg hr, owns_kept h.row hg hr, ownFrom_below (β := Unit) (Nat.le_refl _) hB () X Y row h.below hg hr⟩
theorem names_len (l : List Tg) : (namesL l).length ≤ l.length := List.length_filter_le _ _
theorem one_str (s : ByteArray) : ∀ u ∈ [Value.string s], u.oneCell' = true := by intro u hu; simp at hu; subst hu; rfl

set_option maxRecDepth 100000 in
set_option maxHeartbeats 4000000 in
theorem languages_any (l : List Tg) (v : Value) (w : World) (hv : TgS w v l) (hl : l.length ≤ 100000) (hs : ∀ t ∈ l, t.k.size ≤ 100000 ∧ t.v.size ≤ 100000) :
    Calls Try.prog 11 #[v] w fun e w' => ∃ v', e = .returned v' ∧ StS w' v' (if tagsB l then (namesL l).map langO else []) ∧ Below w.heap.size w w' := by
  have HV := hide (tvalid_any l v w hv hl (fun t ht => ⟨Nat.le_trans (hs t ht).1 (by unfold maxLen; omega), Nat.le_trans (hs t ht).2 (by unfold maxLen; omega)⟩))
  have HS := hide hs
  obtain ⟨A, c, rfl, hA⟩ := hv
  clear hs
  cases hval : tagsB l with
  | false =>
    rw [hval] at HV
    clear hval hA HS
    go_enter Try.func11, Try.ntmps11
    go_wp2_with fail
    refine (HV.out).mono ?_
    rintro _ w1 ⟨rfl, hb⟩
    go_wp2_with fail
    go_ret
    exact ⟨_, rfl, ⟨none, 0, rfl, Nat.le_refl _, .inl rfl⟩, hb⟩
  | true =>
    rw [hval] at HV
    have HA := hide hA
    clear hval hA
    refine (callsIn_wide (n := 10)).1 ?_
    refine callsIn_of_wp_marks Try.func11 rfl trivial ?_ rfl
    simp only [Try.ntmps11, List.size_toArray, List.length_cons, List.length_nil, Nat.reduceAdd, Nat.reduceSub, Array.replicate_succ, Array.replicate_zero, List.push_toArray, List.append_toArray, List.nil_append, List.cons_append]
    have hf : Fence.wide.fn 10 := trivial
    have hf2 : Fence.wide.fn 26 := trivial
    gi_wp2_with (first
      | (gi_at_call 10; refine (callsIn_wide.2 HV.out).mono ?_; rintro e w1 ⟨rfl, hb1⟩)
      | (gi_at_call 26; refine (callsIn_wide.2 (names_any _ _ _ _)).mono ?_; rintro e w2 ⟨rfl, rfl⟩))
    have bx0 := Boxed.new w1 31 (.slice none 0 0)
    have hB1 := hb1.size
    -- the tags' block, or any old one
    obtain ⟨g, hgl, htg⟩ : ∃ g, (g < w1.heap.size ∨ g = w1.heap.size + 1) ∧ (l = [] ∨ ∃ o, A = some ⟨g, o, none⟩ ∧ TagsO w1 g o l) := by
      rcases HA.out with h | ⟨g, o, rfl, hg, hp⟩
      · exact ⟨_, .inr rfl, .inl h⟩
      · exact ⟨g, .inl (by omega), .inr ⟨o, rfl, hp.below hg hb1⟩⟩
    obtain ⟨W0, hW0⟩ : ∃ W0, (w1.alloc (.cells #[.slice none 0 0] 31)).alloc (.cells #[.slice A l.length c] 25) = W0 := ⟨_, rfl⟩
    have hsz : W0.heap.size = w1.heap.size + 2 := by rw [← hW0]; simp
    have hb0 : Below w.heap.size w W0 := by rw [← hW0]; exact (hb1.alloc hB1 _).alloc (by simp; omega) _
    have bx : Boxed W0 w1.heap.size 31 (.slice none 0 0) := by rw [← hW0]; exact bx0.alloc _
    have hbx : W0.heap[w1.heap.size + 1]? = some (.cells #[.slice A l.length c] 25 (0, 0)) := by rw [← hW0]; have := heap_alloc_new (w1.alloc (.cells #[.slice none 0 0] 31)) (.cells #[.slice A l.length c] 25); simpa using this
    have hrg : TgR (w1.heap.size + 1) g A c l W0 := ⟨cell_of_row _ _ 0 _ _ _ hbx, by
      rcases htg with h | ⟨o, hA, hp⟩
      · exact .inl h
      · by_cases h0 : l = []
        · exact .inl h0
        right
        refine ⟨o, hA, ?_⟩
        have hgw : g < w1.heap.size := cell_lt (hp 0 (l[0]'(List.length_pos_iff.2 h0)) (List.getElem?_eq_getElem (List.length_pos_iff.2 h0))).1
        rw [← hW0]
        exact hp.below hgw (((Below.refl _ _).alloc (Nat.le_refl _) _).alloc (by simp) _)⟩
    have HLE := hide (show w.heap.size ≤ W0.heap.size from by omega)
    obtain ⟨i0, hi, hz0, hz1, hz2⟩ := info_parts info_str
    have HI := hide hi; have HZ0 := hide hz0; have HZ1 := hide hz1; have HZ2 := hide hz2
    rw [hW0]
    clear hW0 bx0 hbx hb1 HV hf hf2 htg hi hz0 hz1 hz2
    refine wpIn_rangeFunc_ownH rfl (by omega) (gf := 38) (lb := #[.pointer (some ⟨w1.heap.size + 1, 0, none⟩)]) rfl trivial (enters_of Try.func38 (by kernel_rfl) rfl)
      (names_stops 9 (by omega) (w1.heap.size + 1) g A c l hl (fun t ht => (HS.out t ht).1) W0 hrg) Kr.trans (fun W l o o' _ h1 h2 _ => Kr.putObj W l o o' h1 h2) (Below.refl _ _) (fun _ => rfl)
      (LgE w w1.heap.size W0.heap.size) (fun _ _ _ => False) (lgE_own w _ _ _ (by omega)) (fun _ _ _ _ _ h _ _ => h) ⟨none, 0, Nat.le_refl _, bx, World.ownsRow_nil _ _ _ _, hb0⟩
      (fun x a' W => a' = { tmps := #[.slice A l.length c, undef, .slice none 0 0, .pointer (some ⟨w1.heap.size, 0, none⟩), .string (langO x), .slice A l.length c, .bool true, .bool false, .slice A l.length c, .func (.func 38) #[] #[.pointer (some ⟨w1.heap.size + 1, 0, none⟩)], .string (langO x), .agg #[.string x.k, .string x.v], undef, undef, undef, undef, undef], defers := [] })
      (fun x a' _ X Y row hs hg hr => hs)
      ?assign ?body ?done ?stop
    case assign =>
      rintro l' pre x W K h hK
      unfold encN
      gi_wp2
      exact hK _ _ ((KeepsOthers.refl _).from _) (Kr.below (Below.refl _ _)) h rfl
    case body =>
      rintro l' pre x a' W hl' ⟨rr, hr⟩ ⟨A1, c1, h⟩ rfl hlt
      have c0 : W.cell? ⟨w1.heap.size, 0, none⟩ = _ := h.box.cell
      have f0 : W.frozen? ⟨w1.heap.size, 0, none⟩ = false := h.box.frozen
      have hpl : pre.length ≤ 100000 := by omega
      have hm1 : pre.length + 1 ≤ maxLen := by unfold maxLen; omega
      have hm2 : (pre.length + 1) * 16 ≤ 140737488355328 := by omega
      have hrow := h.row.alloc (.cells #[.string (langO x)] 9)
      have HR := hide hrow
      have hsz2 := h.size
      have HH := hide h
      clear h hrow
      gi_wp2_with (gi_at_builtin; refine wpListIn_append_own _ rfl (.tmp 12) (.tmp 14) 31 rfl W0.heap.size 9 i0 (.string ⟨#[]⟩) 1 16 Try.underlying31 HI.out HZ0.out HZ1.out HZ2.out rfl (by decide) (.slice A1 pre.length c1) pre.length (strsV (pre.map langO)) rfl HR.out ⟨W.heap.size, 0, none⟩ 1 1 [.string (langO x)] rfl rfl (fun j u hj => newB_cells W (.string (langO x)) 9 j u hj) (one_str _) hm1 hm2 (by simp; omega) ?_; intro v' w9 hown' hgrow _; obtain ⟨g', cap', rfl⟩ := ownsRow_succ hown'; obtain ⟨hv1, hv2, hr2, hk2, hb2⟩ := HH.out.box.appended (n₀ := w.heap.size) (B := w1.heap.size) (by decide) (own_weaken HH.out.row HLE.out) HH.out.below.size hB1 (own_weaken hown' HLE.out) hgrow; have hc1 : w9.cell? ⟨w1.heap.size, 0, none⟩ = _ := hv1.cell; have hf1 : w9.frozen? ⟨w1.heap.size, 0, none⟩ = false := hv1.frozen)
      have hrl := HR.out.lt
      refine ⟨hk2.from _, (Kr.below ((Below.refl _ _).alloc (Nat.le_refl _) (.cells #[.string (langO x)] 9))).trans ((Kr.grown (n₀ := W0.heap.size) (by omega) (by omega) hgrow (fun r e => (hrl r e).1)).trans (Kr.set _ _ _ _ (by omega) (by omega))),
        some ⟨g', 0, none⟩, cap', ?_, by rw [List.length_append]; exact hv2, ?_, HH.out.below.trans hb2⟩
      · have := hgrow.size
        simp at this ⊢
        omega
      · have h9 := hown'.kept (grownBy_setCell' w9 w1.heap.size (.slice (some ⟨g', 0, none⟩) (pre.length + 1) cap')) (.inr (hv1.not_row (by decide) hown').symm)
        rw [List.length_append, List.map_append]
        unfold strsV at h9 ⊢
        rw [List.map_append]
        exact h9
    case done =>
      rintro D xs W hD hS ⟨A1, c1, h⟩ hK
      have c0 : W.cell? ⟨w1.heap.size, 0, none⟩ = _ := h.box.cell
      have HH := hide h
      have HK := hide hK
      have HX := hide hS
      clear h hK hS
      gi_wp2
      refine ⟨by simp, .inl ⟨_, _, rfl, run_takeDeferred HK.out, ?_⟩⟩
      refine ⟨_, results_tmp rfl _ _ _, _, rfl, ?_, HH.out.below.trans (belowK_b (w := w) (Nat.le_refl _) W D _ _ (by omega) HK.out rfl rfl)⟩
      obtain rfl := HX.out
      show StS _ (.slice A1 (namesL l).length c1) _
      have h9 := ownsRow_putObj HH.out.row (.deferred none) HK.out rfl
      have h8 : StS _ (.slice A1 ((namesL l).map langO).length c1) _ := st_of_own (by rw [List.length_map]; exact h9)
      rw [List.length_map] at h8
      exact h8
    case stop =>
      rintro D c pre W _ _ h
      exact h.elim
end Go.Proofs.Ytjniicmhndflpaa
