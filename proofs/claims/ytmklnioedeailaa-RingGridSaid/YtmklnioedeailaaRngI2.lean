/-
  RingGrid, walked: it returns true.
-/
import Derived.Test.YtmklnioedeailaaRngM
import Derived.Test.YtmklnioedeailaaRPlainQ2
import Derived.BigQuiet
import Derived.Deep.RegionHeld3
import Derived.Deep.DrawnRows
namespace Go.Proofs.Ytmklnioedeailaa
open Go.RowKit Go.Proofs.PlGeom Go.Proofs.PlRing

/-- The sums so far. -/
def colS (F : Pt → Int) (x y : Int) : Int := sm (fun t : Nat => F ⟨x, (t : Int) - 1⟩) 0 (y + 1).toNat
def allS (F : Pt → Int) (x : Int) : Int := sm (fun u : Nat => colS F ((u : Int) - 1) 26) 0 (x + 1).toNat
theorem colS_start (F : Pt → Int) (x : Int) : colS F x (-1) = 0 := rfl
theorem allS_start (F : Pt → Int) : allS F (-1) = 0 := rfl
theorem colS_step (F : Pt → Int) (x y : Int) (h : -1 ≤ y) : colS F x (y + 1) = colS F x y + F ⟨x, y⟩ := by
  unfold colS
  rw [show (y + 1 + 1).toNat = (y + 1).toNat + 1 from by omega, sm_last, Nat.zero_add, show (((y + 1).toNat : Nat) : Int) - 1 = y from by omega]
theorem allS_step (F : Pt → Int) (x : Int) (h : -1 ≤ x) : allS F (x + 1) = allS F x + colS F x 26 := by
  unfold allS
  rw [show (x + 1 + 1).toNat = (x + 1).toNat + 1 from by omega, sm_last, Nat.zero_add, show (((x + 1).toNat : Nat) : Int) - 1 = x from by omega]
theorem allS_end (F : Pt → Int) : allS F 26 = boxS F := rfl
theorem sm_01 (f : Nat → Int) (B : Int) (h : ∀ k, 0 ≤ f k ∧ f k ≤ B) (n : Nat) : 0 ≤ sm f 0 n ∧ sm f 0 n ≤ B * n := by
  induction n with
  | zero => simp [sm]
  | succ n ih =>
    have := h (0 + n)
    rw [sm_last]
    have e : B * ((n + 1 : Nat) : Int) = B * n + B := by push_cast; grind
    omega
theorem colS_bd (F : Pt → Int) (h : ∀ p, 0 ≤ F p ∧ F p ≤ 1) (x y : Int) (h1 : -1 ≤ y) (h2 : y ≤ 26) : 0 ≤ colS F x y ∧ colS F x y ≤ 27 := by
  have := sm_01 (fun t : Nat => F ⟨x, (t : Int) - 1⟩) 1 (fun k => h _) (y + 1).toNat
  unfold colS
  omega
theorem allS_bd (F : Pt → Int) (h : ∀ p, 0 ≤ F p ∧ F p ≤ 1) (x : Int) (h1 : -1 ≤ x) (h2 : x ≤ 26) : 0 ≤ allS F x ∧ allS F x ≤ 729 := by
  have := sm_01 (fun u : Nat => colS F ((u : Int) - 1) 26) 27 (fun k => colS_bd F h _ 26 (by omega) (by omega)) (x + 1).toNat
  unfold allS
  omega
def isIn (r : List Pt) (p : Pt) : Int := if locate r p = 1 then 1 else 0
def isOn (r : List Pt) (p : Pt) : Int := if locate r p = 0 then 1 else 0
theorem isIn_01 (r : List Pt) (p : Pt) : 0 ≤ isIn r p ∧ isIn r p ≤ 1 := by unfold isIn; split <;> omega
theorem isOn_01 (r : List Pt) (p : Pt) : 0 ≤ isOn r p ∧ isOn r p ≤ 1 := by unfold isOn; split <;> omega
theorem int_eq {k : IntKind} {a b : Int} (h : a = b) : Value.int k a = .int k b := by rw [h]

/-- The memory of RingGrid: the ring, the point in its box. -/
structure GrB (w : World) (b : Nat) (px py : Int) (g o : Nat) (r : List Pt) (W : World) : Prop where
  below : Below w.heap.size w W
  box : W.heap[b]? = some (.cells #[.int .i64 px, .int .i64 py] 24 (0, 0))
  pts : PtsO W g o r
  hg : g < W.heap.size
theorem GrB.lift {w : World} {b : Nat} {px py : Int} {g o : Nat} {r : List Pt} {W W' : World} (h : GrB w b px py g o r W) (hb : Below W.heap.size W W') : GrB w b px py g o r W' :=
  ⟨bto h.below hb, blkB hb h.box, h.pts.below h.hg hb, Nat.lt_of_lt_of_le h.hg hb.size⟩
theorem GrB.drew {w : World} {b : Nat} {px py : Int} {g o : Nat} {r : List Pt} {W : World} (h : GrB w b px py g o r W) : GrB w b px py g o r W.drew := h.lift ((Below.refl _ _).drew)
theorem GrB.sl {w : World} {b : Nat} {px py : Int} {g o : Nat} {r : List Pt} {W : World} (h : GrB w b px py g o r W) (c : Nat) : SlP W (.slice (some ⟨g, o, none⟩) r.length c) r := ⟨_, c, rfl, .inr ⟨g, o, rfl, h.hg, h.pts⟩⟩
def GrJ (w : World) (b : Nat) (px py : Int) (g o : Nat) (r : List Pt) : Type := { W : World // GrB w b px py g o r W }
def GrJ.w {w : World} {b : Nat} {px py : Int} {g o : Nat} {r : List Pt} (u : GrJ w b px py g o r) : World := u.1
theorem GrJ.go {w : World} {b : Nat} {px py : Int} {g o : Nat} {r : List Pt} (u : GrJ w b px py g o r) {w8 : World} (hb : Below u.w.heap.size u.w w8) : ∃ u' : GrJ w b px py g o r, w8 = u'.w := ⟨⟨w8, u.2.lift hb⟩, rfl⟩
theorem touch_hit {r : List Pt} (h : simple r = true) {p : Pt} (hp : nearB p = true) : anyB (fun s => onS s p) (sd r) = hitS p (sd r) := by
  have hs := (simple_iff r).1 h
  rw [Bool.eq_iff_iff, anyB_iff, hitS_iff]
  have key : ∀ x ∈ sd r, onS x p = hitB x p := by
    intro x hx
    obtain ⟨i, _, rfl⟩ := (sd_mem r x).1 hx
    exact (hitB_onS _ _ ((PlRing.near3 _ _ _).2 ⟨hs.nr _, hs.nr _, hp⟩)).symm
  exact ⟨fun ⟨x, hx, e⟩ => ⟨x, hx, (key x hx) ▸ e⟩, fun ⟨x, hx, e⟩ => ⟨x, hx, (key x hx).symm ▸ e⟩⟩

set_option maxRecDepth 100000 in
set_option maxHeartbeats 16000000 in
theorem grid_in (r : List Pt) (g o c : Nat) (w : World) (hg : g < w.heap.size) (hp : PtsO w g o r) (hr : r.length ≤ 20) :
    Calls Try.prog 5 #[.slice (some ⟨g, o, none⟩) r.length c] w fun e w' => e = .returned (.bool true) ∧ Below w.heap.size w w' := by
  have hv : SlP w (.slice (some ⟨g, o, none⟩) r.length c) r := ⟨_, c, rfl, .inr ⟨g, o, rfl, hg, hp⟩⟩
  have HV := hide hv
  have HG := hide hg
  have HP := hide hp
  have CS := hide (fun w h => simple_any r (.slice (some ⟨g, o, none⟩) r.length c) w h (by omega))
  have CD := hide (fun px py w h => side_any r (.slice (some ⟨g, o, none⟩) r.length c) px py w h (by omega))
  have CT := hide (fun w h => twice_any r (.slice (some ⟨g, o, none⟩) r.length c) w h (by omega))
  have bd1 := twice_bd r (by omega)
  have hpick := hide (fun h hb => pick r h hb)
  have hnz := hide (fun h => twice_ne r h)
  obtain ⟨n, hn⟩ : ∃ n, twice r = n := ⟨_, rfl⟩
  rw [hn] at CT bd1 hpick hnz
  obtain ⟨S, hS⟩ : ∃ S, simple r = S := ⟨_, rfl⟩
  rw [hS] at CS hpick hnz
  have HSI := hide hS
  have l1 : ¬ (20 : Int) < r.length := by omega
  obtain ⟨m1, m2⟩ := bd1
  clear hv hg hp hn hS hr
  go_enter Try.func5, Try.ntmps5
  go_wp2_with fail
  refine (rhead_any _).mono ?_
  rintro _ w1 ⟨rfl, b1⟩
  have HB1 := hide b1
  have HP1 := hide (HP.out.below HG.out b1)
  have HG1 := hide (Nat.lt_of_lt_of_le HG.out b1.size)
  clear b1
  go_wp2_with fail
  go_loop [4] (fun i => ∃ k : Nat, k ≤ r.length ∧ i = .int .i64 k ∧ Hid (∀ j, j < k → inBox (at0 r j))) (fun i => r.length - (intOf i).toNat)
  case atStart => exact ⟨0, Nat.zero_le _, rfl, hide (fun j hj => by omega)⟩
  case round =>
    obtain ⟨k, hk, rfl, hbx⟩ := hrel
    by_cases hlt : k < r.length
    · obtain ⟨c1, c2⟩ := HP1.out k _ (at0_some r k hlt)
      have HBX := hide (fun (h : inBox (at0 r k)) (j : Nat) (hj : j < k + 1) => show inBox (at0 r j) from if e : j = k then e ▸ h else hbx.out j (by omega))
      generalize at0 r k = p at *
      obtain ⟨px, py⟩ := p
      simp only at c1 c2
      have k0 : (0 : Int) ≤ k := by omega
      have k1 : (k : Int) < r.length := by omega
      have HL := hide hlt
      have HM := hide (show r.length - (k + 1) < r.length - k from by omega)
      clear hlt hbx
      by_cases g1 : px < 0
      · go_wp2_with fail
        go_ret
        exact ⟨rfl, HB1.out⟩
      by_cases g2 : 24 < px
      · go_wp2_with fail
        go_ret
        exact ⟨rfl, HB1.out⟩
      by_cases g3 : py < 0
      · go_wp2_with fail
        go_ret
        exact ⟨rfl, HB1.out⟩
      by_cases g4 : 24 < py
      · go_wp2_with fail
        go_ret
        exact ⟨rfl, HB1.out⟩
      have HN := hide (HBX.out ⟨⟨by simp only; omega, by simp only; omega⟩, ⟨by simp only; omega, by simp only; omega⟩⟩)
      go_wp2_with fail
      refine ⟨⟨k + 1, HL.out, by go_num, hide (fun j hj => HN.out j (by omega))⟩, ?_⟩
      have := HM.out
      simp [intOf]; omega
    · have hall : ∀ p ∈ r, inBox p := fun p hp => by
        obtain ⟨j, hj, e⟩ := List.mem_iff_getElem.1 hp
        have h2 := hbx.out j (by omega)
        have h3 := at0_some r j hj
        rw [List.getElem?_eq_getElem hj] at h3
        rw [← e, Option.some.inj h3]
        exact h2
      have HALL := hide hall
      clear hall hbx
      go_wp2_with fail
      refine (CS.out _ (HV.out.below HB1.out)).mono ?_
      rintro _ w2 ⟨rfl, b2⟩
      have HB2 := hide (bto HB1.out b2)
      have HP2 := hide (HP1.out.below HG1.out b2)
      have HG2 := hide (Nat.lt_of_lt_of_le HG1.out b2.size)
      clear b2
      cases S with
      | false =>
        go_wp2_with fail
        go_ret
        exact ⟨rfl, HB2.out⟩
      | true =>
        have HS := hide (show simple r = true from HSI.out)
        go_wp2_with fail
        go_loopw [5, 6, 7] (fun a b x wr => ∃ x' : Int, -1 ≤ x' ∧ x' ≤ 26 ∧ x = .int .i64 x' ∧ a = .int .i64 (allS (isIn r) x') ∧ b = .int .i64 (allS (isOn r) x') ∧ Hid (Below w2.heap.size w2 wr)) (fun _ _ x _ => (26 - intOf x).toNat)
        case atStart => exact ⟨-1, by omega, by omega, rfl, rfl, rfl, hide (Below.refl _ _)⟩
        case round =>
          obtain ⟨x, x1, x2, rfl, rfl, rfl, hb⟩ := hrel
          by_cases hx : x ≤ 25
          · have e1 := allS_step (isIn r) x x1
            have e2 := allS_step (isOn r) x x1
            have HE1 := hide e1
            have HE2 := hide e2
            have bi := allS_bd (isIn r) (isIn_01 r) x x1 (by omega)
            have bo := allS_bd (isOn r) (isOn_01 r) x x1 (by omega)
            generalize allS (isIn r) x = ai at *
            generalize allS (isOn r) x = ao at *
            obtain ⟨bi1, bi2⟩ := bi
            obtain ⟨bo1, bo2⟩ := bo
            clear e1 e2
            go_wp2_with fail
            go_loopw [5, 6, 8] (fun a b y wr => ∃ y' : Int, -1 ≤ y' ∧ y' ≤ 26 ∧ y = .int .i64 y' ∧ a = .int .i64 (ai + colS (isIn r) x y') ∧ b = .int .i64 (ao + colS (isOn r) x y') ∧ Hid (Below w2.heap.size w2 wr)) (fun _ _ y _ => (26 - intOf y).toNat)
            case atStart => exact ⟨-1, by omega, by omega, rfl, int_eq (by rw [colS_start]; omega), int_eq (by rw [colS_start]; omega), hb⟩
            case round =>
              obtain ⟨y, y1, y2, rfl, rfl, rfl, hb2⟩ := hrel
              by_cases hy : y ≤ 25
              · have f1 := colS_step (isIn r) x y y1
                have f2 := colS_step (isOn r) x y y1
                have ci := colS_bd (isIn r) (isIn_01 r) x y y1 (by omega)
                have co := colS_bd (isOn r) (isOn_01 r) x y y1 (by omega)
                have hnear : nearB ⟨x, y⟩ = true := (nearB_iff _).2 ⟨by simp only; omega, by simp only; omega, by simp only; omega, by simp only; omega⟩
                have hside : sideR r ⟨x, y⟩ = locate r ⟨x, y⟩ := by rw [side_simple HS.out, if_pos hnear]
                have htouch := touch_hit HS.out hnear
                have hloc : hitS ⟨x, y⟩ (sd r) = decide (locate r ⟨x, y⟩ = 0) := by
                  rw [locate_sd]
                  cases hitS ⟨x, y⟩ (sd r) with
                  | true => simp
                  | false => by_cases e : winS ⟨x, y⟩ (sd r) = 0 <;> simp [e]
                rw [hloc] at htouch
                have hlc := locate_cases r ⟨x, y⟩
                change _ = _ + (if locate r ⟨x, y⟩ = 1 then 1 else 0) at f1
                change _ = _ + (if locate r ⟨x, y⟩ = 0 then 1 else 0) at f2
                have CD2 := hide (fun w h => CD.out x y w h)
                rw [hside] at CD2
                generalize colS (isIn r) x y = si at *
                generalize colS (isOn r) x y = so at *
                generalize locate r ⟨x, y⟩ = L at *
                have HF1 := hide f1
                have HF2 := hide f2
                have HT := hide htouch
                have HLC := hide hlc
                obtain ⟨ci1, ci2⟩ := ci
                obtain ⟨co1, co2⟩ := co
                clear f1 f2 htouch hlc hnear hside hloc
                go_wp2_with fail
                obtain ⟨wo, rfl⟩ : ∃ wo : World, wo = wr := ⟨_, rfl⟩
                have hm0 : GrB w2 wo.heap.size x y g o r (wo.alloc (.cells #[.int .i64 x, .int .i64 y] 24)) :=
                  ⟨hb2.out.alloc hb2.out.size _, blkN _ _ _ rfl, (HP2.out.below HG2.out hb2.out).below (Nat.lt_of_lt_of_le HG2.out hb2.out.size) ((Below.refl _ _).alloc (Nat.le_refl _) _), Nat.lt_of_lt_of_le HG2.out (hb2.out.alloc hb2.out.size _).size⟩
                have HM0 := hide hm0
                clear hm0
                refine (CD2.out _ (HM0.out.sl c)).mono ?_
                rintro _ w3 ⟨rfl, b3⟩
                have HM3 := hide (HM0.out.lift b3)
                clear b3
                go_wp2_with fail
                go_loopw [11, 12] (fun a j wr' => ∃ (k : Nat) (z : Bool), k ≤ r.length ∧ j = .int .i64 k ∧ a = .bool z ∧ Hid (GrB w2 wo.heap.size x y g o r wr') ∧ Hid ((z || anyB (fun s => onS s ⟨x, y⟩) ((sd r).drop k)) = decide (L = 0))) (fun _ j _ => r.length - (intOf j).toNat)
                case atStart => exact ⟨0, false, Nat.zero_le _, rfl, rfl, HM3, hide (by rw [← HT.out]; rfl)⟩
                case round =>
                  obtain ⟨k, z, hk, rfl, rfl, hgb, hrl⟩ := hrel
                  by_cases hlt : k < r.length
                  · have d1 := hrl.out
                    rw [sd_drop r k hlt, anyB] at d1
                    obtain ⟨m, hm⟩ : ∃ m, m = (k + 1) % r.length := ⟨_, rfl⟩
                    have hml : m < r.length := by rw [hm]; exact Nat.mod_lt _ (by omega)
                    have hsd : sideAt r k = ⟨at0 r k, at0 r m⟩ := by unfold sideAt; rw [hm]
                    have e1 : ((k : Int) + 1) % (r.length : Int) = (m : Int) := by rw [hm]; push_cast; rfl
                    have e2 : ((k : Int) + 1).tmod (r.length : Int) = (m : Int) := by rw [Int.tmod_eq_emod_of_nonneg (by omega)]; exact e1
                    have cA : ∀ u : GrJ w2 wo.heap.size x y g o r, _ := fun u => u.2.pts k _ (at0_some r k hlt)
                    have cB : ∀ u : GrJ w2 wo.heap.size x y g o r, _ := fun u => u.2.pts m _ (at0_some r m hml)
                    rw [hsd] at d1
                    clear hsd hm
                    generalize at0 r k = p at *
                    generalize at0 r m = q at *
                    obtain ⟨px, py⟩ := p
                    obtain ⟨qx, qy⟩ := q
                    simp only at cA cB
                    have DD := hide d1
                    have HO := hide (fun w => on_any px py qx qy x y w)
                    generalize onS ⟨⟨px, py⟩, ⟨qx, qy⟩⟩ ⟨x, y⟩ = O at *
                    have kz3 : ¬ (r = []) := by rintro rfl; simp at hlt
                    have kz2 : ¬ ((r.length : Int) = 0) := by omega
                    have kz4 : ¬ (r.length = 0) := by omega
                    have ky : ((r.length : Int) == 0) = false := by rw [beq_eq_false_iff_ne]; omega
                    have kw : IntKind.i64.wrap ((k : Int) + 1) = (k : Int) + 1 := IntWalk.i64_in _ (by omega)
                    have k0 : (0 : Int) ≤ k := by omega
                    have k1 : (k : Int) < r.length := by omega
                    have m0 : (0 : Int) ≤ m := by omega
                    have m1' : (m : Int) < r.length := by omega
                    have HL := hide hlt
                    have HMS := hide (show r.length - (k + 1) < r.length - k from by omega)
                    clear d1 hrl hlt
                    go_wp2_with fail
                    have Y1 : ∀ u : GrJ w2 wo.heap.size x y g o r, u.w.cell? ⟨wo.heap.size, 0, none⟩ = some (.int .i64 x) := fun u => (blk2 u.2.box).1.1
                    have Y2 : ∀ u : GrJ w2 wo.heap.size x y g o r, u.w.cell? ⟨wo.heap.size, 1, none⟩ = some (.int .i64 y) := fun u => (blk2 u.2.box).1.2
                    have Y3 : ∀ u : GrJ w2 wo.heap.size x y g o r, u.w.cell? ⟨g, o + k * 2, none⟩ = some (.int .i64 px) := fun u => (cA u).1
                    have Y4 : ∀ u : GrJ w2 wo.heap.size x y g o r, u.w.cell? ⟨g, o + k * 2 + 1, none⟩ = some (.int .i64 py) := fun u => (cA u).2
                    have Y5 : ∀ u : GrJ w2 wo.heap.size x y g o r, u.w.cell? ⟨g, o + m * 2, none⟩ = some (.int .i64 qx) := fun u => (cB u).1
                    have Y6 : ∀ u : GrJ w2 wo.heap.size x y g o r, u.w.cell? ⟨g, o + m * 2 + 1, none⟩ = some (.int .i64 qy) := fun u => (cB u).2
                    have YN : Nonempty (GrJ w2 wo.heap.size x y g o r) := ⟨⟨_, hgb.out.drew⟩⟩
                    clear cA cB
                    cases z with
                    | true =>
                      refine wp_region_quietW (J := GrJ w2 wo.heap.size x y g o r) GrJ.w ⟨_, hgb.out.drew⟩ rfl (by kernel_rfl) (by kernel_rfl) ?_
                      repeat (go_big_quiet_step (fail))
                      refine wpQuiet_nil ?_
                      rintro w9 ⟨u, rfl⟩
                      have HU := hide (show GrB w2 wo.heap.size x y g o r u.w from u.2)
                      clear YN Y1 Y2 Y3 Y4 Y5 Y6
                      go_wp2_with fail
                      refine ⟨⟨k + 1, true, HL.out, by go_num, rfl, HU, hide (by rw [← DD.out]; rfl)⟩, ?_⟩
                      have := HMS.out
                      simp [intOf]; omega
                    | false =>
                      refine wp_region_quietW (J := GrJ w2 wo.heap.size x y g o r) GrJ.w ⟨_, hgb.out.drew⟩ rfl (by kernel_rfl) (by kernel_rfl) ?_
                      repeat (go_big_quiet_step (((with_reducible refine (HO.out _).mono ?_); rintro _ w8 ⟨rfl, b8⟩; exact ⟨rfl, GrJ.go _ b8⟩)))
                      refine wpQuiet_nil ?_
                      rintro w9 ⟨u, rfl⟩
                      have HU := hide (show GrB w2 wo.heap.size x y g o r u.w from u.2)
                      clear YN Y1 Y2 Y3 Y4 Y5 Y6
                      go_wp2_with fail
                      refine ⟨⟨k + 1, O, HL.out, by go_num, rfl, HU, hide (by rw [← DD.out]; rfl)⟩, ?_⟩
                      have := HMS.out
                      simp [intOf]; omega
                  · have hz : z = decide (L = 0) := by
                      have := hrl.out
                      rw [List.drop_eq_nil_of_le (by rw [sd_len]; omega)] at this
                      rw [← this]; simp [anyB]
                    have HB5 := hide hgb.out.below
                    clear hrl
                    rcases HLC.out with e | e | e
                    · subst e
                      have ez : z = false := by rw [hz]; decide
                      subst ez
                      clear hz
                      go_wp2_with fail
                      refine ⟨⟨y + 1, by omega, by omega, rfl, int_eq (by rw [HF1.out, if_pos rfl]; omega), int_eq (by rw [HF2.out, if_neg (by decide)]; omega), HB5⟩, ?_⟩
                      simp [intOf]; omega
                    · subst e
                      have ez : z = true := by rw [hz]; decide
                      subst ez
                      clear hz
                      go_wp2_with fail
                      refine ⟨⟨y + 1, by omega, by omega, rfl, int_eq (by rw [HF1.out, if_neg (by decide)]; omega), int_eq (by rw [HF2.out, if_pos rfl]; omega), HB5⟩, ?_⟩
                      simp [intOf]; omega
                    · subst e
                      have ez : z = false := by rw [hz]; decide
                      subst ez
                      clear hz
                      go_wp2_with fail
                      refine ⟨⟨y + 1, by omega, by omega, rfl, int_eq (by rw [HF1.out, if_neg (by decide)]; omega), int_eq (by rw [HF2.out, if_neg (by decide)]; omega), HB5⟩, ?_⟩
                      simp [intOf]; omega
              · have hy26 : y = 26 := by omega
                subst hy26
                go_wp2_with fail
                refine ⟨⟨x + 1, by omega, by omega, rfl, int_eq (by rw [HE1.out]), int_eq (by rw [HE2.out]), hb2⟩, ?_⟩
                simp [intOf]; omega
          · have hx26 : x = 26 := by omega
            subst hx26
            have hpk := hpick.out (by first | rfl | trivial) HALL.out
            have hne := hnz.out (by first | rfl | trivial)
            have bi := allS_bd (isIn r) (isIn_01 r) 26 (by omega) (by omega)
            have bo := allS_bd (isOn r) (isOn_01 r) 26 (by omega) (by omega)
            rw [show cntIn r = allS (isIn r) 26 from rfl, show cntOn r = allS (isOn r) 26 from rfl] at hpk
            generalize allS (isIn r) 26 = ai at *
            generalize allS (isOn r) 26 = ao at *
            unfold absI at hpk
            obtain ⟨bi1, bi2⟩ := bi
            obtain ⟨bo1, bo2⟩ := bo
            obtain ⟨M, hM⟩ : ∃ M : Int, (n < -n ∧ ¬ -n < n ∧ M = -n) ∨ (-n < n ∧ ¬ n < -n ∧ M = n) := by
              by_cases g : 0 < n
              · exact ⟨n, .inr (by omega)⟩
              · exact ⟨-n, .inl (by omega)⟩
            have hMv : M = 2 * ai + ao - 2 := by omega
            clear hpk hne
            go_wp2_with fail
            refine (CT.out _ (HV.out.below (bto (bto HB2.out (Below.refl _ _)) hb.out))).mono ?_
            rintro _ w3 ⟨rfl, b3⟩
            have HB3 := hide (bto (bto HB2.out hb.out) b3)
            clear b3
            rcases hM with ⟨k1, k2, k3⟩ | ⟨k1, k2, k3⟩
            · have hE : (-n == 2 * ai + ao - 2) = true := beq_iff_eq.2 (by omega)
              clear hMv k3
              go_wp2_with fail
              go_ret
              exact ⟨rfl, HB3.out⟩
            · have hE : (n == 2 * ai + ao - 2) = true := beq_iff_eq.2 (by omega)
              clear hMv k3
              go_wp2_with fail
              go_ret
              exact ⟨rfl, HB3.out⟩

set_option maxRecDepth 100000 in
set_option maxHeartbeats 8000000 in
theorem grid_nil (A : Option Addr) (c : Nat) (w : World) :
    Calls Try.prog 5 #[.slice A 0 c] w fun e w' => e = .returned (.bool true) ∧ Below w.heap.size w w' := by
  have CS := hide (fun w => simple_any [] (.slice A 0 c) w ⟨A, c, rfl, .inl rfl⟩ (by simp))
  rw [show simple [] = false from rfl] at CS
  go_enter Try.func5, Try.ntmps5
  go_wp2_with fail
  refine (rhead_any _).mono ?_
  rintro _ w1 ⟨rfl, b1⟩
  have HB1 := hide b1
  clear b1
  go_wp2_with fail
  go_loop [4] (fun i => i = .int .i64 0) (fun _ => 0)
  case atStart => exact rfl
  case round =>
    subst hrel
    go_wp2_with fail
    refine (CS.out _).mono ?_
    rintro _ w2 ⟨rfl, b2⟩
    have HB2 := hide (bto HB1.out b2)
    clear b2
    go_wp2_with fail
    go_ret
    exact ⟨rfl, HB2.out⟩
set_option maxHeartbeats 2000000 in
theorem grid_walk (r : List Pt) (v : Value) (w : World) (hv : SlC w v r) (_ : r.length ≤ maxLen) :
    Calls Try.prog 5 #[v] w fun e w' => e = .returned (.bool true) ∧ Below w.heap.size w w' := by
  obtain ⟨A, c, rfl, _, hA⟩ := hv
  by_cases h1 : r.length ≤ 20
  · rcases hA with rfl | ⟨g, o, rfl, hg, hp⟩
    · exact grid_nil A c w
    · exact grid_in r g o c w hg hp h1
  · have n1 : (20 : Int) < r.length := by omega
    go_enter Try.func5, Try.ntmps5
    go_wp2_with fail
    refine (rhead_any _).mono ?_
    rintro _ w1 ⟨rfl, b1⟩
    go_wp2_with fail
    go_ret
    exact ⟨rfl, b1⟩
end Go.Proofs.Ytmklnioedeailaa
