/-
  Which side, and doubled rings, walked.
-/
import Derived.Test.YtmklnioedeailaaRngE
import Derived.Test.YtmklnioedeailaaRPlain5
import Derived.Test.YtmklnioedeailaaGeoX
namespace Go.Proofs.Ytmklnioedeailaa
open Go.RowKit Go.Proofs.PlGeom Go.Proofs.PlRing
attribute [local go_sem] Oper.semAt_some

set_option maxHeartbeats 2000000 in
theorem side_any (r : List Pt) (v : Value) (px py : Int) (w : World) (hv : SlP w v r) (hl : r.length ≤ 100000) :
    Calls Try.prog 16 #[v, .agg #[.int .i64 px, .int .i64 py]] w fun e w' => e = .returned (.int .i64 (sideR r ⟨px, py⟩)) ∧ Below w.heap.size w w' := by
  obtain ⟨w0, hw0⟩ : ∃ w0, w.alloc (.cells #[.int .i64 px, .int .i64 py] 24) = w0 := ⟨_, rfl⟩
  have b0 : Below w.heap.size w w0 := by rw [← hw0]; exact (Below.refl _ _).alloc (Nat.le_refl _) _
  have k0 : w0.heap[w.heap.size]? = some (.cells #[.int .i64 px, .int .i64 py] 24 (0, 0)) := by rw [← hw0]; exact blkN _ _ _ rfl
  have HS := hide (simple_any r v w0 (hv.below b0) hl)
  have HN := hide (fun W => rnear_any px py W)
  have HL := hide (fun (W : World) (h : Below w.heap.size w W) (hf : Fine r) (h3 : 1 ≤ r.length) (hp : wideP ⟨px, py⟩) => locate_any r v px py W (hv.below h) hf h3 hp)
  obtain ⟨R, hR⟩ : ∃ R, R = sideR r ⟨px, py⟩ := ⟨_, rfl⟩
  rw [← hR]
  unfold sideR at hR
  have hsr := simple_reg r
  obtain ⟨A, c, rfl, _⟩ := hv
  cases hs : simple r with
  | false =>
    rw [hs] at hR HS
    have HR := hide hR
    clear hR hs hsr
    go_enter Try.func16, Try.ntmps16
    go_wp2_with fail
    refine (HS.out).mono ?_
    rintro _ w1 ⟨rfl, hb⟩
    clear hw0
    go_wp2_with fail
    go_ret
    exact ⟨ret_int (by rw [HR.out]; rfl), bto b0 hb⟩
  | true =>
    rw [hs] at hR HS
    have hreg := hsr hs
    obtain ⟨hf, h3⟩ := regB_fine r hreg
    cases hn : nearB ⟨px, py⟩ with
    | false =>
      rw [hn] at hR HN
      have HR := hide hR
      clear hR hs hsr hreg hn
      go_enter Try.func16, Try.ntmps16
      go_wp2_with fail
      refine (HS.out).mono ?_
      rintro _ w1 ⟨rfl, hb⟩
      clear hw0
      obtain ⟨⟨d1, d2⟩, _⟩ := blk2 (blkB hb k0)
      have HB := hide hb
      clear hb
      go_wp2_with fail
      refine (HN.out _).mono ?_
      rintro _ w2 ⟨rfl, hb2⟩
      go_wp2_with fail
      go_ret
      exact ⟨ret_int (by rw [HR.out]; rfl), bto (bto b0 HB.out) hb2⟩
    | true =>
      have hfp := (fine_near _ hn).wide
      rw [hn] at hR HN
      have HR := hide hR
      clear hR hs hsr hreg hn
      go_enter Try.func16, Try.ntmps16
      go_wp2_with fail
      refine (HS.out).mono ?_
      rintro _ w1 ⟨rfl, hb⟩
      clear hw0
      obtain ⟨⟨d1, d2⟩, _⟩ := blk2 (blkB hb k0)
      have HB := hide hb
      clear hb
      go_wp2_with fail
      refine (HN.out _).mono ?_
      rintro _ w2 ⟨rfl, hb2⟩
      obtain ⟨⟨d3, d4⟩, _⟩ := blk2 (blkB hb2 (blkB HB.out k0))
      have hb3 := bto (bto b0 HB.out) hb2
      have HB3 := hide hb3
      clear hb3 hb2 d1 d2
      go_wp2_with fail
      refine (HL.out _ HB3.out hf (by omega) hfp).mono ?_
      rintro _ w3 ⟨rfl, hb4⟩
      go_wp2_with fail
      go_ret
      exact ⟨ret_int (by rw [HR.out]; rfl), bto HB3.out hb4⟩

set_option maxHeartbeats 1000000 in
theorem dbl_any (px py : Int) (hp : nearB ⟨px, py⟩ = true) (w : World) : Calls Try.prog 56 #[.agg #[.int .i64 px, .int .i64 py]] w fun e w' => e = .returned (.agg #[.int .i64 (2 * px), .int .i64 (2 * py)]) ∧ Below w.heap.size w w' := by
  rw [nearB_iff] at hp
  simp only at hp
  obtain ⟨h1, h2, h3, h4⟩ := hp
  go_enter Try.func56, Try.ntmps56
  go_wp2
  refine bodyPost_ret (v := .agg #[.int .i64 (2 * px), .int .i64 (2 * py)]) (by simp [results, Try.results56, go_sem]) rfl ⟨rfl, ?_⟩
  exact ((Below.refl _ _).alloc (Nat.le_refl _) _).alloc (by simp) _

theorem dropD (r : List Pt) (k : Nat) (h : k < r.length) : dblR (r.take (k + 1)) = dblR (r.take k) ++ [dblP (at0 r k)] := by
  have e := at0_some r k h
  rw [List.getElem?_eq_getElem h, Option.some.injEq] at e
  rw [List.take_succ_eq_append_getElem h, e]
  unfold dblR
  rw [List.map_append]; rfl

/-- What mapped has built, and what lay there before. -/
structure MaI (w : World) (r : List Pt) (k : Nat) (A : Option Addr) (c : Nat) (W : World) : Prop where
  own : W.ownsRow w.heap.size 24 2 (.slice A k c) k (cellsP (dblR (r.take k)))
  below : Below w.heap.size w W
theorem MaI.lift {w : World} {r : List Pt} {k : Nat} {A : Option Addr} {c : Nat} {W W' : World} (h : MaI w r k A c W) (hb : Below W.heap.size W W') : MaI w r k A c W' := ⟨ownP_below h.own hb, bto h.below hb⟩

set_option maxHeartbeats 4000000 in
theorem mapped_any (r : List Pt) (v : Value) (w : World) (hv : SlP w v r) (hreg : regB r = true) :
    Calls Try.prog 55 #[v, .func (.func 56) #[] #[]] w fun e w' => ∃ A c, e = .returned (.slice A r.length c) ∧ MaI w r r.length A c w' := by
  obtain ⟨hr3, hr, hnear⟩ := (regB_iff r).1 hreg
  have HNL := hide (nearL_mem r hnear)
  obtain ⟨A0, c0, rfl, hA⟩ := hv
  obtain ⟨g, o, rfl, hg, hp⟩ := hA.resolve_left (by rintro rfl; simp at hr3)
  have HP := hide hp
  obtain ⟨i0, hi, hz0, hz1, hz2⟩ := info_parts info_pt
  have HI := hide hi
  have HZ0 := hide hz0
  have HZ1 := hide hz1
  have HZ2 := hide hz2
  clear hA hp hreg hnear hi hz0 hz1 hz2
  go_enter Try.func55, Try.ntmps55
  go_wp2_with ((with_reducible refine wpList_make_own _ rfl (.const (.int .i64 0)) (.tmp 9) 22 rfl w.heap.size 24 i0 (.agg #[.int .i64 0, .int .i64 0]) 2 Try.underlying22 HI.out HZ0.out HZ1.out .i64 .i64 (r.length : Int) r.length rfl rfl rfl (by rw [HZ2.out]; omega) (by unfold maxLen; omega) (Nat.le_refl _) ?_); intro w0 hown0 hgr0)
  have hm0 : MaI w r 0 (some ⟨w.heap.size, 0, none⟩) r.length w0 := ⟨hown0, (Below.refl _ w).grown hgr0 (Nat.le_refl _) (fun k e => by cases e)⟩
  clear hown0 hgr0
  go_loopw [5, 13] (fun u i wr => ∃ (k : Nat) (A : Option Addr) (c : Nat), k ≤ r.length ∧ i = .int .i64 k ∧ u = .slice A k c ∧ Hid (MaI w r k A c wr)) (fun _ i _ => r.length - (intOf i).toNat)
  case atStart => exact ⟨0, _, _, Nat.zero_le _, rfl, rfl, hm0⟩
  case round =>
    clear hm0
    obtain ⟨k, A, c, hk, rfl, rfl, hm⟩ := hrel
    by_cases hlt : k < r.length
    · obtain ⟨c1, c2⟩ := (HP.out.below hg hm.out.below) k _ (at0_some r k hlt)
      have hnp := HNL.out (at0 r k) (List.mem_of_getElem? (at0_some r k hlt))
      have hD := hide (dropD r k hlt)
      have HD := hide (dbl_any (at0 r k).x (at0 r k).y hnp)
      generalize at0 r k = p at *
      obtain ⟨px, py⟩ := p
      simp only at c1 c2 HD
      have b1 : (0 : Int) ≤ k := by omega
      have b2 : (k : Int) < r.length := by omega
      have hDD : cellsP (dblR (r.take (k + 1))) = cellsP (dblR (r.take k)) ++ [.int .i64 (2 * px), .int .i64 (2 * py)] := by rw [hD.out, cellsP_app]; rfl
      have HDD := hide hDD
      clear hnp hDD hD
      go_wp2_with (first
        | (refine (HD.out _).mono ?_; rintro _ w3 ⟨rfl, hb3⟩)
        | (at_builtin; go_must (refine wpList_append_own _ rfl (.tmp 17) (.tmp 21) 22 rfl w.heap.size 24 i0 (.agg #[.int .i64 0, .int .i64 0]) 2 16 Try.underlying22 HI.out HZ0.out HZ1.out HZ2.out rfl (by decide) (.slice A k c) k (cellsP (dblR (r.take k))) rfl ?c0 ⟨w3.heap.size, 0, none⟩ 1 1 [.int .i64 (2 * px), .int .i64 (2 * py)] rfl rfl ?c1 ?c2 ?c3 ?c4 ?c5 ?_)))
      all_goals have hm5 : MaI w r k A c (w3.alloc (.cells #[.int .i64 (2 * px), .int .i64 (2 * py)] 24)) := ((hm.out.lift ((Below.refl _ wr).alloc (Nat.le_refl _) _)).lift hb3).lift ((Below.refl _ w3).alloc (Nat.le_refl _) _)
      case c0 => exact hm5.own
      case c1 => exact newP_cells w3 [.int .i64 (2 * px), .int .i64 (2 * py)] 24
      case c2 => intro u hu; simp at hu; rcases hu with rfl | rfl <;> rfl
      case c3 => unfold maxLen; omega
      case c4 => omega
      case c5 => exact hm5.below.size
      intro v' w9 hown' hgrow _
      have hm9 : ∃ A' c', v' = .slice A' (k + 1) c' ∧ MaI w r (k + 1) A' c' w9 := by
        obtain ⟨A', c', rfl⟩ := own_slice hown'
        refine ⟨A', c', rfl, by rw [HDD.out]; exact hown', hm5.below.grown hgrow hm5.below.size (fun b hb => (hm5.own.lt b hb).1)⟩
      obtain ⟨A', c', rfl, hm9⟩ := hm9
      have HM9 := hide hm9
      clear hm9 hown' hgrow hm5 hb3 c1 c2
      go_wp2_with fail
      refine ⟨⟨k + 1, A', c', by omega, by go_num, rfl, HM9.out⟩, ?_⟩
      simp [intOf]; omega
    · obtain rfl : k = r.length := by omega
      go_wp2_with fail
      go_ret
      exact ⟨A, c, rfl, hm.out⟩
end Go.Proofs.Ytmklnioedeailaa
