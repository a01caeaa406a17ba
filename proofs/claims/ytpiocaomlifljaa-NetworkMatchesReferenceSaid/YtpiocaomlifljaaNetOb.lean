/-
  The law's back (a list of strings in the opposite order), walked.
-/
import Derived.Test.YtpiocaomlifljaaNetOa
import Derived.Test.YtpiocaomlifljaaNetW
namespace Go.Proofs.Ytpiocaomlifljaa
open Go.RowKit Go.Proofs.PlLex Go.Proofs.PlNet

theorem strs_of_row {W : World} {B n : Nat} {v : Value} {l : List BA} (h : W.ownsRow B 9 1 v n (l.map Value.string)) (hn : n = l.length) : StS W v l := by
  subst hn
  rcases h.2 with ⟨hv, h0⟩ | ⟨g, cap, cur, hv, hg, hh, hc, _⟩
  · subst hv
    obtain rfl := List.length_eq_zero_iff.1 h0
    exact ⟨none, 0, rfl, Nat.le_refl _, .inl rfl⟩
  · subst hv
    refine ⟨some ⟨g, 0, none⟩, cap, rfl, hc, .inr ⟨g, 0, rfl, lt_of_block hh, fun i s hi => ?_⟩⟩
    have := h.cells (g := g) rfl i (.string s) (by rw [List.getElem?_map, hi]; rfl)
    have e : (⟨g, 0, none⟩ : Addr).add i = ⟨g, 0 + i, none⟩ := by simp only [Addr.add, Nat.zero_add]; split <;> simp_all
    rw [← e]
    exact this
theorem rev_take {l : List BA} {k m : Nat} {x : BA} (h : m + k + 1 = l.length) (hx : l[m]? = some x) : l.reverse.take (k + 1) = l.reverse.take k ++ [x] := by
  rw [List.take_add_one, List.getElem?_reverse (by omega), show l.length - 1 - k = m by omega, hx]
  rfl
set_option maxRecDepth 100000 in
set_option maxHeartbeats 8000000 in
theorem back_any (l : List BA) (v : Value) (w : World) (hv : StS w v l) (hl : l.length ≤ 100000) :
    Calls Try.prog 29 #[v] w fun e w' => ∃ A c, e = .returned (.slice A l.length c) ∧ StS w' (.slice A l.length c) l.reverse ∧ (∀ b, (Value.slice A l.length c).ownBlock = some b → w.heap.size ≤ b) ∧ Below w.heap.size w w' := by
  obtain ⟨i0, hi, hz0, hz1, hz2⟩ := info_parts info_string
  have HI := hide hi
  have HZ0 := hide hz0
  have HZ1 := hide hz1
  have HZ2 := hide hz2
  obtain ⟨A, c, rfl, _, hA⟩ := hv
  have HA := hide hA
  have s0 : IntKind.i64.wrap ((l.length : Int) - 1) = (l.length : Int) - 1 := IntWalk.i64_in _ (by omega)
  clear hi hz0 hz1 hz2 hA
  go_enter Try.func29, Try.ntmps29
  go_wp2_with fail
  go_loopw [3, 4] (fun out i wr => ∃ (k : Nat) (z : Int) (Ao : Option Addr) (co : Nat), k ≤ l.length ∧ Hid (z = l.length - 1 - k) ∧ i = .int .i64 z ∧ out = .slice Ao k co ∧ Hid (wr.ownsRow w.heap.size 9 1 (.slice Ao k co) k ((l.reverse.take k).map Value.string)) ∧ Hid (Below w.heap.size w wr)) (fun _ i _ => (intOf i + 1).toNat)
  case atStart => exact ⟨0, _, none, 0, Nat.zero_le _, hide (by omega), rfl, rfl, World.ownsRow_nil _ _ _ _, Below.refl _ _⟩
  case round =>
    obtain ⟨k, z, Ao, co, hk, hz, rfl, rfl, hrow, hb⟩ := hrel
    by_cases hlt : k < l.length
    · obtain ⟨m, hm⟩ : ∃ m : Nat, z = m := ⟨z.toNat, by have := hz.out; omega⟩
      have hmk : m + k + 1 = l.length := by have := hz.out; omega
      subst hm
      obtain ⟨g, o, rfl, hg, hp⟩ := HA.out.resolve_left (by rintro rfl; simp at hlt)
      have hx := List.getElem?_eq_getElem (show m < l.length by omega)
      generalize l[m] = x at *
      have c0 := (hb.out.cell (p := ⟨g, o + m, none⟩) hg).trans (hp m x hx)
      have m0 : (0 : Int) ≤ m := by omega
      have m1 : (m : Int) < l.length := by omega
      have s1 : IntKind.i64.wrap ((m : Int) - 1) = (m : Int) - 1 := IntWalk.i64_in _ (by omega)
      have HT := hide (rev_take hmk hx)
      have HMK := hide hmk
      have HROW := hide hrow.out
      have HB := hide hb.out
      clear hlt hp hx hrow hb hz hmk hk
      go_wp2_with (at_builtin; go_must (refine wpList_append_lies _ rfl (.tmp 12) (.tmp 17) 39 rfl w.heap.size 9 i0 (.string ⟨#[]⟩) 1 16 Try.underlying39 HI.out HZ0.out HZ1.out HZ2.out rfl (by decide) (.slice Ao k co) k ((l.reverse.take k).map Value.string) rfl ?c0 ⟨wr.heap.size, 0, none⟩ 1 1 [.string x] rfl rfl ?c1 ?c2 (by decide) ?c3 ?c4 ?c5 (wr.heap.size + 1) ?c6 ?_))
      case c0 => exact own_below HROW.out ((Below.refl _ _).alloc (Nat.le_refl _) _)
      case c1 =>
        intro j u hj
        exact new_cells wr [.string x] 9 j u hj
      case c2 => intro u hu; simp at hu; subst hu; rfl
      case c3 => unfold maxLen; have := HMK.out; omega
      case c4 => have := HMK.out; omega
      case c5 => have := HB.out.size; simp; omega
      case c6 => simp
      intro g9 cap w9 hown9 hgrow9 hat9 _
      have HB9 := hide (show Below w.heap.size w w9 from ((HB.out.alloc HB.out.size (.cells #[.string x] 9))).grown hgrow9 (by have := HB.out.size; simp; omega) (fun b hb => (own_block HROW.out hb).1))
      have HR9 : Hid (w9.ownsRow w.heap.size 9 1 (.slice (some ⟨g9, 0, none⟩) (k + 1) cap) (k + 1) ((l.reverse.take (k + 1)).map Value.string)) := by
        rw [HT.out, List.map_append]
        refine hide ?_
        simpa using hown9
      clear hown9 hgrow9 hat9 c0 HROW HB
      go_wp2_with fail
      refine ⟨⟨k + 1, (m : Int) - 1, some ⟨g9, 0, none⟩, cap, by have := HMK.out; omega, hide (by have := HMK.out; omega), rfl, rfl, HR9, HB9⟩, ?_⟩
      simp [intOf]
    · obtain rfl : k = l.length := by omega
      have hz1 : z = -1 := by have := hz.out; omega
      subst hz1
      have HROW := hide hrow.out
      have HB := hide hb.out
      clear hlt hrow hb hz
      go_wp2_with fail
      go_ret
      have hr := HROW.out
      rw [show l.length = l.reverse.length by simp, List.take_length] at hr
      have hs := strs_of_row hr rfl
      rw [List.length_reverse] at hs hr
      exact ⟨Ao, co, by simp, hs, fun b hb => (own_block hr hb).1, HB.out⟩
end Go.Proofs.Ytpiocaomlifljaa
