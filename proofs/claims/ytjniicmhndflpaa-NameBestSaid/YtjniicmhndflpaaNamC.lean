/-
  name.language, walked: the language of a key.
-/
import Derived.Test.YtjniicmhndflpaaNamB
import Derived.Lib.OthersKept
import Derived.Deep.LoopGhost
namespace Go.Proofs.Ytjniicmhndflpaa
open Go.RowKit Go.Proofs.PlLex Go.Proofs.PlName

theorem drop_low (r : ByteArray) (pos : Nat) (h : pos < r.size) : (r.data.toList.drop pos).all lowB = (lowR (Utf8.decode r pos).1 && (r.data.toList.drop (pos + (Utf8.decode r pos).2)).all lowB) := by
  have hsz : r.data.toList.length = r.size := rfl
  have hat := Go.Lib.decode_at r pos
  have hrl := rune_low (r.size - pos) (r.get! pos).toNat (r.get! (pos + 1)).toNat (r.get! (pos + 2)).toNat (r.get! (pos + 3)).toNat
  rw [← hat] at hrl
  have hhd : r.data.toList.drop pos = r.get! pos :: r.data.toList.drop (pos + 1) := by
    have g := get_list r pos h
    have hl : pos < r.data.toList.length := by rw [hsz]; exact h
    rw [List.drop_eq_getElem_cons hl]
    congr 1
    rw [List.getElem?_eq_getElem hl] at g
    exact Option.some.inj g
  rw [hhd, List.all_cons, low_nat, hrl.1]
  cases e : lowR (r.get! pos).toNat with
  | false => rfl
  | true => rw [hrl.2 e]
theorem ret_sb {s : Value} {a b : Bool} (h : a = b) : Ending.returned (.tuple #[s, .bool a]) = .returned (.tuple #[s, .bool b]) := by rw [h]
theorem low_int (R : Nat) : lowR R = (decide (97 ≤ (R : Int)) && decide ((R : Int) ≤ 122)) := by
  unfold lowR
  rw [Bool.eq_iff_iff]
  simp only [Bool.and_eq_true, decide_eq_true_eq]
  omega

set_option maxRecDepth 100000 in
set_option maxHeartbeats 8000000 in
theorem language_any (s : ByteArray) (w : World) (hs : s.size ≤ 100000) :
    Calls Try.prog 39 #[.string s] w fun e w' => e = .returned (.tuple #[.string ⟨(langR s.data.toList).toArray⟩, .bool (langB s.data.toList)]) ∧ Below w.heap.size w w' := by
  by_cases hn : s.data.toList = nameB
  · have h1 : (s.toList == [110, 97, 109, 101]) = true := by rw [ByteArray.toList_eq, hn]; rfl
    have e1 : langR s.data.toList = [] := by unfold langR; rw [if_pos hn]
    have e2 : langB s.data.toList = true := by unfold langB; rw [if_pos hn]
    rw [e1, e2]
    clear e1 e2 hn
    go_enter Try.func39, Try.ntmps39
    go_wp2_with fail
    go_ret2
    exact ⟨rfl, Below.refl _ _⟩
  · have h1 : (s.toList == [110, 97, 109, 101]) = false := by
      rw [ByteArray.toList_eq, beq_eq_false_iff_ne]
      exact hn
    have e1 : langR s.data.toList = Go.Lib.trimPrefix s.data.toList namePre := by unfold langR; rw [if_neg hn]
    have e2 : langB s.data.toList = (Go.Lib.hasPrefix s.data.toList namePre && (Go.Lib.trimPrefix s.data.toList namePre).all lowB && decide (0 < (Go.Lib.trimPrefix s.data.toList namePre).length) && decide ((Go.Lib.trimPrefix s.data.toList namePre).length ≤ 8)) := by unfold langB; rw [if_neg hn]
    rw [e1, e2]
    have hc := fun w => Try.strings_CutPrefix s ⟨#[110, 97, 109, 101, 95]⟩ w
    rw [show (ByteArray.mk #[110, 97, 109, 101, 95]).data.toList = namePre from rfl] at hc
    have hlen : (Go.Lib.trimPrefix s.data.toList namePre).length ≤ 100000 := by
      unfold Go.Lib.trimPrefix
      have : s.data.toList.length = s.size := rfl
      split
      · rw [List.length_drop]; omega
      · omega
    generalize Go.Lib.trimPrefix s.data.toList namePre = l at *
    generalize Go.Lib.hasPrefix s.data.toList namePre = hp at *
    obtain ⟨r, hr⟩ : ∃ r : ByteArray, r = ⟨l.toArray⟩ := ⟨_, rfl⟩
    have hrl : r.data.toList = l := by rw [hr]
    have hrs : r.size = l.length := by rw [hr]; simp [ByteArray.size]
    rw [← hr] at hc ⊢
    have HC := hide hc
    obtain ⟨Q, hQ⟩ : ∃ Q, (hp && l.all lowB) = Q := ⟨_, rfl⟩
    rw [hQ]
    have HQ := hide hQ
    have HRL := hide hrl
    rw [← hrs] at hlen ⊢
    clear e1 e2 hn hc hQ hrl hrs hr
    go_enter Try.func39, Try.ntmps39
    go_wp2_with fail
    refine (HC.out _).mono ?_
    rintro _ w2 ⟨rfl, hw2⟩
    obtain rfl : w = w2 := hw2.symm
    go_wp2_with fail
    go_loopg [5] r.size (fun gf s5 wx => ∃ (pos : Nat) (z : Bool), s5 = .bool z ∧ Hid (wx.heap[w.heap.size]? = some (.stringIter r pos)) ∧ Hid (Below w.heap.size w wx) ∧ r.size ≤ pos + gf ∧ pos ≤ r.size ∧ Hid ((z && (r.data.toList.drop pos).all lowB) = Q))
    case atStart => exact ⟨0, hp, rfl, hide (World.iter_heap w r 0), hide ((Below.refl _ _).alloc (Nat.le_refl _) _), by omega, Nat.zero_le _, hide (by rw [List.drop_zero, HRL.out, HQ.out])⟩
    case round =>
      obtain ⟨pos, z, rfl, hit, hbw, hfu, hps, hq⟩ := hrel
      by_cases hlt : pos < r.size
      · obtain ⟨g', rfl⟩ : ∃ g', gk = g' + 1 := ⟨gk - 1, by omega⟩
        have hnx : ∀ ty, (Instr.next (.pointer (some ⟨w.heap.size, 0, none⟩)) true ty).run Try.prog wr = _ := fun ty => Go.Lib.run_next_any_at wr w.heap.size r pos ty hit.out hlt
        have hwd := Go.Lib.width_pos r pos
        have hwn : pos + (Utf8.decode r pos).2 ≤ r.size := by
          have := Go.Lib.decodeN_le_n' (r.size - pos) (r.get! pos).toNat (r.get! (pos + 1)).toNat (r.get! (pos + 2)).toNat (r.get! (pos + 3)).toNat (by omega)
          rw [← Go.Lib.decode_at] at this
          omega
        have hd := drop_low r pos hlt
        have hli := low_int (Utf8.decode r pos).1
        have hq2 := hq.out
        rw [hd, hli] at hq2
        obtain ⟨R, hR⟩ : ∃ R, ((Utf8.decode r pos).1 : Int) = R := ⟨_, rfl⟩
        obtain ⟨K, hK⟩ : ∃ K, (Utf8.decode r pos).2 = K := ⟨_, rfl⟩
        rw [hR, hK] at hnx hq2
        rw [hK] at hwd hwn
        have hit2 := Go.Lib.iterAt_heap wr w.heap.size r pos (pos + K) hit.out
        have hbw2 := Go.Lib.below_iterAt hbw.out (k := w.heap.size) (Nat.le_refl _) r (pos + K)
        obtain ⟨W, hWd⟩ : ∃ W, wr.iterAt w.heap.size r (pos + K) = W := ⟨_, rfl⟩
        rw [hWd] at hnx hit2 hbw2
        have HIT := hide hit2
        have HBW := hide hbw2
        have HQ2 := hide hq2
        have HF := hide (show r.size ≤ pos + K + g' from by omega)
        have HP := hide (show pos + K ≤ r.size from hwn)
        have HG := hide (show g' < g' + 1 from by omega)
        clear hd hli hq2 hq hit hbw hit2 hbw2 hR hK hWd hwd hwn hfu hps hlt
        have fin : ∀ z' : Bool, (z && (decide (97 ≤ R) && decide (R ≤ 122))) = z' → Hid ((z' && (r.data.toList.drop (pos + K)).all lowB) = Q) := fun z' e => hide (by
          rw [← HQ2.out, ← e]
          cases z <;> simp)
        have FIN := hide fin
        clear fin
        cases z with
        | false =>
          go_wp2_with fail
          go_roundg g'
          case measure => exact HG.out
          case rel => exact ⟨pos + K, false, rfl, HIT, HBW, HF.out, HP.out, FIN.out false rfl⟩
        | true =>
          by_cases u1 : 97 ≤ R
          · by_cases u2 : R ≤ 122
            · go_wp2_with fail
              go_roundg g'
              case measure => exact HG.out
              case rel => exact ⟨pos + K, true, rfl, HIT, HBW, HF.out, HP.out, FIN.out true (by simp [u1, u2])⟩
            · have d2 : decide (R ≤ 122) = false := decide_eq_false u2
              go_wp2_with fail
              go_roundg g'
              case measure => exact HG.out
              case rel => exact ⟨pos + K, false, rfl, HIT, HBW, HF.out, HP.out, FIN.out false (by rw [d2]; simp)⟩
          · have d1 : decide (97 ≤ R) = false := decide_eq_false u1
            go_wp2_with fail
            go_roundg g'
            case measure => exact HG.out
            case rel => exact ⟨pos + K, false, rfl, HIT, HBW, HF.out, HP.out, FIN.out false (by rw [d1]; rfl)⟩
      · obtain rfl : pos = r.size := by omega
        have hz : z = Q := by
          rw [← hq.out, List.drop_eq_nil_of_le (show r.data.toList.length ≤ r.size from Nat.le_of_eq rfl)]
          simp
        subst hz
        have hnx : ∀ ty, (Instr.next (.pointer (some ⟨w.heap.size, 0, none⟩)) true ty).run Try.prog wr = _ := fun ty => Go.Lib.run_next_end_at wr w.heap.size r r.size ty hit.out (Nat.lt_irrefl _)
        have HB := hide hbw.out
        clear hit hbw hq hfu hps hlt
        cases z with
        | false =>
          go_wp2_with fail
          go_ret2
          exact ⟨rfl, HB.out⟩
        | true =>
          by_cases u1 : 0 < r.size
          · have v1 : (0 : Int) < r.size := by omega
            by_cases u2 : r.size ≤ 8
            · have v2 : (r.size : Int) ≤ 8 := by omega
              have e3 : (true && decide (0 < r.size) && decide (r.size ≤ 8)) = true := by simp [u1, u2]
              have E3 := hide e3
              clear e3
              go_wp2_with fail
              go_ret2
              exact ⟨(by first | exact ret_sb E3.out.symm | rfl), HB.out⟩
            · have v2 : ¬ (r.size : Int) ≤ 8 := by omega
              have e3 : (true && decide (0 < r.size) && decide (r.size ≤ 8)) = false := by simp [u2]
              have E3 := hide e3
              clear e3
              go_wp2_with fail
              go_ret2
              exact ⟨(by first | exact ret_sb E3.out.symm | rfl), HB.out⟩
          · have v1 : ¬ (0 : Int) < r.size := by omega
            have e3 : (true && decide (0 < r.size) && decide (r.size ≤ 8)) = false := by simp [u1]
            have E3 := hide e3
            clear e3
            go_wp2_with fail
            go_ret2
            exact ⟨(by first | exact ret_sb E3.out.symm | rfl), HB.out⟩
end Go.Proofs.Ytjniicmhndflpaa
