/-
  top and join, walked.
-/
import Derived.Test.YtpiocaomlifljaaNetU
import Derived.Test.YtpiocaomlifljaaPlain6
import Derived.Test.YtpiocaomlifljaaNetL
import Derived.Laws.OwnMore
namespace Go.Proofs.Ytpiocaomlifljaa
open Go.RowKit Go.Proofs.PlLex Go.Proofs.PlNet Go.Proofs.PlMap

/-- A map in memory as a function. -/
structure UpR (ul : List (ByteArray × Value)) (up : ByteArray → Option ByteArray) : Prop where
  get : ∀ s, getL ul s = (up s).map Value.string
  size : ∀ s y, up s = some y → y.size ≤ 100000
theorem zero_str (w : World) : (zeroValue 9).run Try.prog w = .ok (.string ⟨#[]⟩) w := by kernel_rfl
set_option maxRecDepth 100000 in
set_option maxHeartbeats 4000000 in
theorem top_any (bu : Nat) (ul : List (ByteArray × Value)) (up : ByteArray → Option ByteArray) (R : ByteArray → ByteArray) (d : ByteArray → Nat) (W : World) (hm : MapS W bu ul) (hu : UpR ul up) (hf : UF up R d) (x : ByteArray) (hx : x.size ≤ 100000) :
    Calls Try.prog 43 #[.agg #[.map (some bu)], .string x] W fun e W' => e = .returned (.string (R x)) ∧ (R x).size ≤ 100000 ∧ Below W.heap.size W W' := by
  obtain ⟨S, hS⟩ : ∃ S, R x = S := ⟨_, rfl⟩
  rw [hS]
  have HS := hide hS
  have HU := hide hu
  have HF := hide hf
  obtain ⟨wo, hwo⟩ : ∃ wo, W.alloc (.cells #[.map (some bu)] 77) = wo := ⟨_, rfl⟩
  have hb0 : Below W.heap.size W wo := by rw [← hwo]; exact (Below.refl _ _).alloc (Nat.le_refl _) _
  have hbx : wo.heap[W.heap.size]? = some (.cells #[.map (some bu)] 77 (0, 0)) := by rw [← hwo]; exact heap_alloc_new _ _
  have d0 := (blk1 hbx).1
  have HM := hide (hm.kept (grown_none hb0) (by simp))
  have HB0 := hide hb0
  have HD0 := hide d0
  clear hS hu hf hb0 hbx hm
  go_enter Try.func43, Try.ntmps43
  go_wp2_with fail
  clear hwo d0
  have d0 := HD0.out
  go_loop [1] (fun v => ∃ x : ByteArray, v = .string x ∧ x.size ≤ 100000 ∧ Hid (R x = S)) (fun v => match v with | .string x => d x | _ => 0)
  case atStart => exact ⟨x, rfl, hx, HS⟩
  case round =>
    obtain ⟨x, rfl, hx, hr⟩ := hrel
    have hlook := HM.out.look_ok Try.underlying75 zero_str (x := x) (Nat.le_trans hx (by unfold maxLen; omega))
    change (Instr.lookup 75 (.map (some bu)) (.string x) true).run _ _ = _ at hlook
    rw [HU.out.get x] at hlook
    cases e : up x with
    | none =>
      rw [e] at hlook
      have hR := (HF.out.none x e).1
      have HZ := hide (show x = S from by rw [← hr.out, hR])
      have hlook2 : (Instr.lookup 75 (.map (some bu)) (.string x) true).run Try.prog wo = .ok (.tuple #[.string ⟨#[]⟩, .bool false]) wo := hlook
      clear hlook hr hR e
      go_wp2_with fail
      go_ret
      exact ⟨ret_str HZ.out, by rw [← HZ.out]; exact hx, HB0.out⟩
    | some y =>
      rw [e] at hlook
      have hlook2 : (Instr.lookup 75 (.map (some bu)) (.string x) true).run Try.prog wo = .ok (.tuple #[.string y, .bool true]) wo := hlook
      have hys := HU.out.size x y e
      clear hlook
      cases hy : (y.toList == x.toList) with
      | true =>
        have hy3 : y.toList = x.toList := by simpa using hy
        have hyx := toList_inj.1 hy3
        rw [hyx] at e
        have hR := (HF.out.self x e).1
        have HZ := hide (show x = S from by rw [← hr.out, hR])
        clear hr hR e hyx
        go_wp2_with fail
        go_ret
        exact ⟨ret_str HZ.out, by rw [← HZ.out]; exact hx, HB0.out⟩
      | false =>
        have hy3 : ¬ y.toList = x.toList := by simpa using hy
        obtain ⟨h1, h2⟩ := HF.out.step x y e (fun e2 => hy3 (by rw [e2]))
        have HZ := hide (show R y = S from by rw [← hr.out, h1])
        have HD := hide (show d y < d x from by omega)
        clear hr h1 h2 e
        go_wp2_with fail
        exact ⟨⟨y, rfl, hys, HZ⟩, HD.out⟩
theorem uf_size {ul : List (ByteArray × Value)} {up : ByteArray → Option ByteArray} {R : ByteArray → ByteArray} {d : ByteArray → Nat} (hu : UpR ul up) (hf : UF up R d) : ∀ n x, d x ≤ n → x.size ≤ 100000 → (R x).size ≤ 100000 := by
  intro n
  induction n with
  | zero =>
    intro x hd hx
    cases e : up x with
    | none => rw [(hf.none x e).1]; exact hx
    | some y =>
      by_cases hy : y = x
      · subst hy; rw [(hf.self y e).1]; exact hx
      · have := (hf.step x y e hy).2; omega
  | succ n ih =>
    intro x hd hx
    cases e : up x with
    | none => rw [(hf.none x e).1]; exact hx
    | some y =>
      by_cases hy : y = x
      · subst hy; rw [(hf.self y e).1]; exact hx
      · obtain ⟨h1, h2⟩ := hf.step x y e hy
        rw [h1]
        exact ih y (by omega) (hu.size x y e)
theorem UpR.put {ul : List (ByteArray × Value)} {up : ByteArray → Option ByteArray} (h : UpR ul up) (A B : ByteArray) (hB : B.size ≤ 100000) : UpR (putL ul A (.string B)) (joinU up A B) := by
  refine ⟨fun s => ?_, fun s y hs => ?_⟩
  · rw [getL_put]
    unfold joinU
    by_cases e : s = A
    · rw [if_pos e, if_pos e]; rfl
    · rw [if_neg e, if_neg e]; exact h.get s
  · unfold joinU at hs
    by_cases e : s = A
    · rw [if_pos e] at hs; cases hs; exact hB
    · rw [if_neg e] at hs; exact h.size s y hs
theorem grown_after {a b c : World} {k : Nat} (h : Below a.heap.size a b) (ht : b.grownBy c (some k)) : a.grownBy c (some k) :=
  ⟨ht.os.trans h.os, ht.tape.trans h.tape, ht.output.trans h.output, Nat.le_trans h.size ht.size, fun i hi hne => (ht.block i (Nat.lt_of_lt_of_le hi h.size) hne).trans (h.block i hi)⟩
set_option maxRecDepth 100000 in
set_option maxHeartbeats 4000000 in
theorem join_any (bu : Nat) (ul : List (ByteArray × Value)) (up : ByteArray → Option ByteArray) (R : ByteArray → ByteArray) (d : ByteArray → Nat) (W : World) (hm : MapS W bu ul) (hu : UpR ul up) (hf : UF up R d) (a b : ByteArray) (ha : a.size ≤ 100000) (hb : b.size ≤ 100000) (hl : ul.length < 100000000000000) :
    Calls Try.prog 42 #[.agg #[.map (some bu)], .string a, .string b] W fun e W' => (∃ v, e = .returned v) ∧ ∃ ul', MapS W' bu ul' ∧ UpR ul' (joinU up (R a) (R b)) ∧ ul'.length ≤ ul.length + 1 ∧ W.grownBy W' (some bu) := by
  obtain ⟨wo, hwo⟩ : ∃ wo, W.alloc (.cells #[.map (some bu)] 77) = wo := ⟨_, rfl⟩
  have hb0 : Below W.heap.size W wo := by rw [← hwo]; exact (Below.refl _ _).alloc (Nat.le_refl _) _
  have hbx : wo.heap[W.heap.size]? = some (.cells #[.map (some bu)] 77 (0, 0)) := by rw [← hwo]; exact heap_alloc_new _ _
  have hm0 : MapS wo bu ul := hm.kept (grown_none hb0) (by simp)
  have d0 : ∀ u : Gls wo, u.w.cell? ⟨W.heap.size, 0, none⟩ = some (.map (some bu)) := fun u => (blk1 (blkB u.2 hbx)).1
  have HT := hide (fun (u : Gls wo) x (hx : x.size ≤ 100000) => top_any bu ul up R d u.w (hm0.kept (grown_none u.2) (by simp)) hu hf x hx)
  have YN : Nonempty (Gls wo) := ⟨⟨_, Below.refl _ _⟩⟩
  have HM0 := hide hm0
  have HB0 := hide hb0
  have HBX := hide hbx
  have HU := hide hu
  have HF := hide hf
  have hsa : (R a).size ≤ maxLen := Nat.le_trans (uf_size hu hf _ a (Nat.le_refl _) ha) (by unfold maxLen; omega)
  have hsb := uf_size hu hf _ b (Nat.le_refl _) hb
  clear hm hu hf hb0 hbx hm0
  go_enter Try.func42, Try.ntmps42
  go_wp2_with fail
  refine wp_region_quietW (J := Gls wo) Gls.w ⟨_, below_drew wo⟩ rfl (by kernel_rfl) (by kernel_rfl) ?_
  repeat (go_big_quiet_step ((first | ((with_reducible refine (HT.out _ _ ha).mono ?_); rintro _ w8 ⟨rfl, _, b8⟩; exact ⟨rfl, Gls.go _ b8⟩) | ((with_reducible refine (HT.out _ _ hb).mono ?_); rintro _ w8 ⟨rfl, _, b8⟩; exact ⟨rfl, Gls.go _ b8⟩))))
  refine wpQuiet_nil ?_
  rintro w9 ⟨u, rfl⟩
  have hb9 := u.2
  rw [show (u.w : World) = u.1 from rfl]
  generalize u.1 = wy at *
  have d1 := (blk1 (blkB hb9 HBX.out)).1
  obtain ⟨W3, hst, hml, htu⟩ := (HM0.out.kept (grown_none hb9) (by simp)).store Try.underlying75 (by unfold maxLen; omega) (x := R a) hsa (.string (R b))
  change (Instr.mapUpdate 75 (.map (some bu)) (.string (R a)) (.string (R b))).run _ _ = _ at hst
  have HQ := hide (show ∃ ul', MapS W3 bu ul' ∧ UpR ul' (joinU up (R a) (R b)) ∧ ul'.length ≤ ul.length + 1 ∧ W.grownBy W3 (some bu) from ⟨_, hml, HU.out.put _ _ hsb, by rw [putL_len]; split <;> omega, grown_after (bto HB0.out hb9) htu.grown⟩)
  clear d0 YN hml htu HT
  go_wp2_with fail
  go_end0
  exact ⟨⟨_, rfl⟩, HQ.out⟩
end Go.Proofs.Ytpiocaomlifljaa

/-! network.Parts: its memory. -/
namespace Go.Proofs.Ytpiocaomlifljaa
open Go.RowKit Go.Proofs.PlLex Go.Proofs.PlNet Go.Proofs.PlMap

/-- Lists of strings in memory. -/
def GrO (W : World) (g o : Nat) (L : List (List ByteArray)) : Prop := ∀ (i : Nat) r, L[i]? = some r → ∃ iv, W.cell? ⟨g, o + i, none⟩ = some iv ∧ StS W iv r
def GrS (W : World) (v : Value) (L : List (List ByteArray)) : Prop := ∃ A c, v = .slice A L.length c ∧ L.length ≤ c ∧ (L = [] ∨ ∃ g o, A = some ⟨g, o, none⟩ ∧ g < W.heap.size ∧ GrO W g o L)
theorem GrO.below {W W' : World} {g o : Nat} {L : List (List ByteArray)} (h : GrO W g o L) (hg : g < W.heap.size) (hb : Below W.heap.size W W') : GrO W' g o L := fun i r hi => by
  obtain ⟨iv, h1, h2⟩ := h i r hi
  exact ⟨iv, (hb.cell (p := ⟨g, _, none⟩) hg).trans h1, h2.below hb⟩
theorem GrS.below {W W' : World} {v : Value} {L : List (List ByteArray)} (h : GrS W v L) (hb : Below W.heap.size W W') : GrS W' v L := by
  obtain ⟨A, c, hv, hc, h⟩ := h
  refine ⟨A, c, hv, hc, ?_⟩
  rcases h with h | ⟨g, o, hA, hg, hp⟩
  · exact .inl h
  · exact .inr ⟨g, o, hA, Nat.lt_of_lt_of_le hg hb.size, hp.below hg hb⟩
/-- The sets so far, in memory. -/
structure PtI (w1 : World) (ul : List (ByteArray × Value)) (W : World) : Prop where
  sb : W.heap[w1.heap.size + 1]? = some (.cells #[.map (some w1.heap.size)] 77 (0, 0))
  um : MapS W w1.heap.size ul
  below : Below w1.heap.size w1 W
theorem PtI.lift {w1 : World} {ul : List (ByteArray × Value)} {W W' : World} (h : PtI w1 ul W) (hb : Below W.heap.size W W') : PtI w1 ul W' :=
  ⟨blkB hb h.sb, h.um.kept (grown_none hb) (by simp), bto h.below hb⟩
theorem below_grown {a b c : World} {k : Nat} (h : Below a.heap.size a b) (hg : b.grownBy c (some k)) (hk : a.heap.size ≤ k) : Below a.heap.size a c :=
  ⟨hg.os.trans h.os, hg.tape.trans h.tape, hg.output.trans h.output, Nat.le_trans h.size hg.size, fun i hi => (hg.block i (Nat.lt_of_lt_of_le hi h.size) (fun e => by cases e; omega)).trans (h.block i hi)⟩
theorem PtI.join {w1 : World} {ul ul' : List (ByteArray × Value)} {W W' : World} (h : PtI w1 ul W) (hm : MapS W' w1.heap.size ul') (hg : W.grownBy W' (some w1.heap.size)) : PtI w1 ul' W' :=
  ⟨(hg.block _ (lt_of_block h.sb) (fun e => by have := Option.some.inj e; omega)).trans h.sb, hm, below_grown h.below hg (Nat.le_refl _)⟩
theorem PtI.step {w1 : World} {ul : List (ByteArray × Value)} {W W' : World} {r : Nat} (h : PtI w1 ul W) (hg : W.grownBy W' (some r)) (hr : w1.heap.size + 1 < r) : PtI w1 ul W' :=
  ⟨(hg.block _ (lt_of_block h.sb) (fun e => by cases e; omega)).trans h.sb, h.um.kept hg (fun e => by cases e; omega), below_grown h.below hg (by omega)⟩

theorem below_row {a b c : World} {row : Option Nat} (h : Below a.heap.size a b) (hg : b.grownBy c row) (hk : ∀ r, row = some r → a.heap.size ≤ r) : Below a.heap.size a c :=
  ⟨hg.os.trans h.os, hg.tape.trans h.tape, hg.output.trans h.output, Nat.le_trans h.size hg.size, fun i hi => (hg.block i (Nat.lt_of_lt_of_le hi h.size) (fun e => by have := hk i e.symm; omega)).trans (h.block i hi)⟩
theorem row_ne_row {W : World} {B B' sz sz' n n' : Nat} {t t' : TypeId} {v v' : Value} {xs xs' : List Value} (h : W.ownsRow B t sz v n xs) (h' : W.ownsRow B' t' sz' v' n' xs') (ht : t ≠ t') : ∀ b, v.ownBlock = some b → v'.ownBlock ≠ some b := by
  intro b h1 h2
  obtain ⟨_, c, hc⟩ := own_block h h1
  obtain ⟨_, c', hc'⟩ := own_block h' h2
  rw [hc] at hc'
  cases hc'
  exact ht rfl
theorem row_ne_map {W : World} {B sz n m : Nat} {t : TypeId} {v : Value} {xs : List Value} {al : List (ByteArray × Value)} (h : W.ownsRow B t sz v n xs) (hm : MapS W m al) : some m ≠ v.ownBlock := by
  intro e
  obtain ⟨_, c, hc⟩ := own_block h e.symm
  obtain ⟨⟨D, ⟨es, clock, hb, _⟩, _⟩, _⟩ := hm
  rw [hc] at hb
  cases hb
theorem row_ne_blk {W : World} {B sz n b : Nat} {t t' : TypeId} {v : Value} {xs : List Value} {cs : Array Value} {f : Nat × Nat} (h : W.ownsRow B t sz v n xs) (hb : W.heap[b]? = some (.cells cs t' f)) (ht : t' ≠ t) : some b ≠ v.ownBlock := by
  intro e
  obtain ⟨_, c, hc⟩ := own_block h e.symm
  rw [hc] at hb
  cases hb
  exact ht rfl
theorem PtI.row {w1 : World} {ul : List (ByteArray × Value)} {W W' : World} {sz n : Nat} {t : TypeId} {v : Value} {xs : List Value} (h : PtI w1 ul W) (hr : W.ownsRow w1.heap.size t sz v n xs) (ht : 77 ≠ t) (hg : W.grownBy W' v.ownBlock) : PtI w1 ul W' :=
  ⟨(hg.block _ (lt_of_block h.sb) (row_ne_blk hr h.sb ht)).trans h.sb, h.um.kept hg (row_ne_map hr h.um), below_row h.below hg (fun _ e => (own_block hr e).1)⟩
/-- The groups so far, in memory. -/
structure PaI (w1 : World) (bm : Nat) (ul al : List (ByteArray × Value)) (L : List (List ByteArray)) (vs : List Value) (vo : Value) (W : World) : Prop where
  pt : PtI w1 ul W
  am : MapS W bm al
  ab : w1.heap.size + 1 < bm
  out : W.ownsRow w1.heap.size 39 1 vo L.length vs
  inn : ∀ (i : Nat) r, L[i]? = some r → ∃ iv, vs[i]? = some iv ∧ W.ownsRow w1.heap.size 9 1 iv r.length (r.map .string)
  ne : ∀ (i j : Nat) iv jv b, vs[i]? = some iv → vs[j]? = some jv → iv.ownBlock = some b → jv.ownBlock = some b → i = j
theorem PaI.lift {w1 : World} {bm : Nat} {ul al : List (ByteArray × Value)} {L : List (List ByteArray)} {vs : List Value} {vo : Value} {W W' : World} (h : PaI w1 bm ul al L vs vo W) (hb : Below W.heap.size W W') : PaI w1 bm ul al L vs vo W' :=
  ⟨h.pt.lift hb, h.am.kept (grown_none hb) (by simp), h.ab, own_below h.out hb, fun i r hi => by obtain ⟨iv, h1, h2⟩ := h.inn i r hi; exact ⟨iv, h1, own_below h2 hb⟩, h.ne⟩
theorem row_map_ne {W : World} {B sz n m : Nat} {t : TypeId} {v : Value} {xs : List Value} {al : List (ByteArray × Value)} (h : W.ownsRow B t sz v n xs) (hm : MapS W m al) : ∀ b, v.ownBlock = some b → some m ≠ some b := by
  intro b hb e
  exact row_ne_map h hm (e.trans hb.symm)
theorem PaI.put {w1 : World} {bm : Nat} {ul al al' : List (ByteArray × Value)} {L : List (List ByteArray)} {vs : List Value} {vo : Value} {W W' : World} (h : PaI w1 bm ul al L vs vo W) (hm : MapS W' bm al') (ht : W.mapTurned W' bm) : PaI w1 bm ul al' L vs vo W' :=
  ⟨h.pt.step ht.grown h.ab, hm, h.ab, own_kept h.out ht.grown (row_map_ne h.out h.am), fun i r hi => by obtain ⟨iv, h1, h2⟩ := h.inn i r hi; exact ⟨iv, h1, own_kept h2 ht.grown (row_map_ne h2 h.am)⟩, h.ne⟩
theorem PaI.more {w1 : World} {bm : Nat} {ul al : List (ByteArray × Value)} {L : List (List ByteArray)} {vs : List Value} {vo vo' : Value} {W W' : World} (h : PaI w1 bm ul al L vs vo W) (hr : W'.ownsRow w1.heap.size 39 1 vo' (L.length + 1) (vs ++ [.slice none 0 0])) (hg : W.grownBy W' vo.ownBlock) : PaI w1 bm ul al (L ++ [[]]) (vs ++ [.slice none 0 0]) vo' W' := by
  have hl : vs.length = L.length := by have := h.out.1; omega
  have key : ∀ (i : Nat) iv b, (vs ++ [Value.slice none 0 0])[i]? = some iv → iv.ownBlock = some b → vs[i]? = some iv := by
    intro i iv b hi hb
    by_cases hlt : i < vs.length
    · rwa [List.getElem?_append_left hlt] at hi
    · rw [List.getElem?_append_right (by omega)] at hi
      have : iv = .slice none 0 0 := by
        have := List.mem_of_getElem? hi
        simpa using this
      subst this
      cases hb
  refine ⟨h.pt.row h.out (by decide) hg, h.am.kept hg (row_ne_map h.out h.am), h.ab, by simpa using hr, fun i r hi => ?_, fun i j iv jv b h1 h2 h3 h4 => h.ne i j iv jv b (key i iv b h1 h3) (key j jv b h2 h4) h3 h4⟩
  by_cases hlt : i < L.length
  · rw [List.getElem?_append_left hlt] at hi
    obtain ⟨iv, h1, h2⟩ := h.inn i r hi
    exact ⟨iv, by rw [List.getElem?_append_left (by omega)]; exact h1, own_kept h2 hg (fun b h3 h4 => row_ne_row h2 h.out (by decide) b h3 h4)⟩
  · rw [List.getElem?_append_right (by omega)] at hi
    have hi0 : i = L.length := by
      have := (List.getElem?_eq_some_iff.1 hi).1
      simp at this
      omega
    subst hi0
    have : r = [] := by simpa using hi.symm
    subst this
    exact ⟨.slice none 0 0, by rw [List.getElem?_append_right (by omega), hl]; simp, World.ownsRow_nil _ _ _ _⟩
theorem PaI.grow {w1 : World} {bm : Nat} {ul al : List (ByteArray × Value)} {L : List (List ByteArray)} {vs : List Value} {W W' : World} {go c i g cap n : Nat} {r : List ByteArray} {id : ByteArray} {iv : Value} (h : PaI w1 bm ul al L vs (.slice (some ⟨go, 0, none⟩) n c) W) (hn : n = L.length)
    (hi : L[i]? = some r) (hv : vs[i]? = some iv) (hr : W'.ownsRow w1.heap.size 9 1 (.slice (some ⟨g, 0, none⟩) (r.length + 1) cap) (r.length + 1) (r.map .string ++ [.string id])) (hg : W.grownBy W' iv.ownBlock) (hat : iv.ownBlock = some g ∨ W.heap.size ≤ g) :
    PaI w1 bm ul al (L.set i (r ++ [id])) (vs.set i (.slice (some ⟨g, 0, none⟩) (r.length + 1) cap)) (.slice (some ⟨go, 0, none⟩) n c) (W'.setCell ⟨go, i, none⟩ (.slice (some ⟨g, 0, none⟩) (r.length + 1) cap)) := by
  subst hn
  obtain ⟨iv', hv', hin⟩ := h.inn i r hi
  obtain rfl : iv' = iv := by rw [hv] at hv'; exact (Option.some.inj hv').symm
  have hout := own_kept h.out hg (fun b h3 h4 => row_ne_row hin h.out (by decide) b h4 h3)
  obtain ⟨hs, hsg⟩ := hout.stored i (.slice (some ⟨g, 0, none⟩) (r.length + 1) cap)
  have hl : vs.length = L.length := by have := h.out.1; omega
  have hil : i < L.length := (List.getElem?_eq_some_iff.1 hi).1
  have hkeep : ∀ (j : Nat) r', j ≠ i → L[j]? = some r' → ∃ jv, vs[j]? = some jv ∧ W'.ownsRow w1.heap.size 9 1 jv r'.length (r'.map .string) := by
    intro j r' hj hr'
    obtain ⟨jv, h1, h2⟩ := h.inn j r' hr'
    exact ⟨jv, h1, own_kept h2 hg (fun b h3 h4 => hj (h.ne j i jv iv' b h1 hv h3 h4))⟩
  have hpt := h.pt.row hin (by decide) hg
  have ham := h.am.kept hg (row_ne_map hin h.am)
  have hfar : ∀ (j : Nat) jv b, j ≠ i → vs[j]? = some jv → jv.ownBlock = some b → b ≠ g := by
    intro j jv b hj hjv hb e
    subst e
    rcases hat with hat | hat
    · exact hj (h.ne j i jv iv' b hjv hv hb hat)
    · obtain ⟨r', hr'⟩ : ∃ r', L[j]? = some r' := ⟨_, List.getElem?_eq_getElem (by have := (List.getElem?_eq_some_iff.1 hjv).1; omega)⟩
      obtain ⟨jv', h1, h2⟩ := h.inn j r' hr'
      rw [hjv] at h1
      obtain rfl : jv = jv' := Option.some.inj h1
      obtain ⟨_, cc, hcc⟩ := own_block h2 hb
      have := lt_of_block hcc
      omega
  refine ⟨hpt.row hout (by decide) hsg, ham.kept hsg (row_ne_map hout ham), h.ab, by simpa using hs, fun j r' hj => ?_, fun j k jv kv b h1 h2 h3 h4 => ?_⟩
  · by_cases e : j = i
    · subst e
      rw [List.getElem?_set_self hil] at hj
      obtain rfl := Option.some.inj hj
      refine ⟨_, List.getElem?_set_self (by omega), ?_⟩
      have := own_kept hr hsg (fun b h3 h4 => row_ne_row hr hout (by decide) b h3 h4)
      simpa using this
    · rw [List.getElem?_set_ne (fun e2 => e e2.symm)] at hj
      obtain ⟨jv, h1, h2⟩ := hkeep j r' e hj
      exact ⟨jv, by rw [List.getElem?_set_ne (fun e2 => e e2.symm)]; exact h1, own_kept h2 hsg (fun b h3 h4 => row_ne_row h2 hout (by decide) b h3 h4)⟩
  · by_cases ej : j = i
    · by_cases ek : k = i
      · rw [ej, ek]
      · subst ej
        rw [List.getElem?_set_self (by omega)] at h1
        obtain rfl := Option.some.inj h1
        rw [List.getElem?_set_ne (fun e2 => ek e2.symm)] at h2
        have e : g = b := by simpa [Value.ownBlock] using h3
        exact (hfar k kv b ek h2 h4 e.symm).elim
    · rw [List.getElem?_set_ne (fun e2 => ej e2.symm)] at h1
      by_cases ek : k = i
      · subst ek
        rw [List.getElem?_set_self (by omega)] at h2
        obtain rfl := Option.some.inj h2
        have e : g = b := by simpa [Value.ownBlock] using h4
        exact (hfar j jv b ej h1 h3 e.symm).elim
      · rw [List.getElem?_set_ne (fun e2 => ek e2.symm)] at h2
        exact h.ne j k jv kv b h1 h2 h3 h4
theorem row_strs {W : World} {B : Nat} {v : Value} {r : List ByteArray} (h : W.ownsRow B 9 1 v r.length (r.map .string)) : StS W v r := by
  rcases h.2 with ⟨rfl, hn⟩ | ⟨g, cap, cur, rfl, hg, hh, hnc, _⟩
  · exact ⟨none, 0, by rw [hn], by omega, .inl (List.length_eq_zero_iff.1 hn)⟩
  · refine ⟨_, cap, rfl, hnc, .inr ⟨g, 0, rfl, lt_of_block hh, fun i s hi => ?_⟩⟩
    have := h.cellAt i (by have := (List.getElem?_eq_some_iff.1 hi).1; omega)
    rw [Nat.zero_add, this, List.getElem?_map, hi]
    rfl
theorem PaI.res {w1 : World} {bm : Nat} {ul al : List (ByteArray × Value)} {L : List (List ByteArray)} {vs : List Value} {vo : Value} {W : World} (h : PaI w1 bm ul al L vs vo W) : GrS W vo L := by
  have ho := h.out
  rcases h.out.2 with ⟨rfl, hn⟩ | ⟨g, cap, cur, rfl, hg, hh, hnc, _⟩
  · exact ⟨none, 0, by rw [hn], by omega, .inl (List.length_eq_zero_iff.1 hn)⟩
  · refine ⟨_, cap, rfl, hnc, .inr ⟨g, 0, rfl, lt_of_block hh, fun i r hi => ?_⟩⟩
    obtain ⟨iv, h1, h2⟩ := h.inn i r hi
    refine ⟨iv, ?_, row_strs h2⟩
    have := ho.cellAt i (by have := (List.getElem?_eq_some_iff.1 hi).1; omega)
    rw [Nat.zero_add, this, h1]
end Go.Proofs.Ytpiocaomlifljaa
