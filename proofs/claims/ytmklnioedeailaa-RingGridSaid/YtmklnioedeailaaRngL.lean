/-
  The laws' own small functions, walked: points, the opposite order, another first corner.
-/
import Derived.Test.YtmklnioedeailaaRngH
import Derived.Test.YtmklnioedeailaaRPlain6
import Derived.Deep.RegionHeld3
import Derived.Deep.AppendLies
import Derived.Deep.Draws
namespace Go.Proofs.Ytmklnioedeailaa
open Go.RowKit Go.Proofs.PlGeom Go.Proofs.PlRing

def ptsOf : List Int → List Pt
  | x :: y :: l => ⟨x, y⟩ :: ptsOf l
  | _ => []
theorem ptsOf_snoc (l : List Int) (k : Nat) : ∀ x y, l[2 * k]? = some x → l[2 * k + 1]? = some y → (ptsOf l).take (k + 1) = (ptsOf l).take k ++ [⟨x, y⟩] := by
  induction k generalizing l with
  | zero =>
    intro x y h1 h2
    match l with
    | a :: b :: l =>
      simp at h1 h2
      subst h1 h2
      simp [ptsOf]
    | [a] => simp at h2
    | [] => simp at h1
  | succ k ih =>
    intro x y h1 h2
    match l with
    | a :: b :: l =>
      have e1 : (a :: b :: l)[2 * (k + 1)]? = l[2 * k]? := by rw [show 2 * (k + 1) = 2 * k + 1 + 1 from by omega]; rfl
      have e2 : (a :: b :: l)[2 * (k + 1) + 1]? = l[2 * k + 1]? := by rw [show 2 * (k + 1) + 1 = 2 * k + 1 + 1 + 1 from by omega]; rfl
      rw [e1] at h1
      rw [e2] at h2
      simp only [ptsOf, List.take_succ_cons, List.cons_append, ih l x y h1 h2]
    | [a] => simp at h2
    | [] => simp at h1
theorem ptsOf_len (l : List Int) : ∀ m, l.length = 2 * m → (ptsOf l).length = m := by
  intro m
  induction m generalizing l with
  | zero =>
    intro h
    have : l = [] := List.eq_nil_of_length_eq_zero (by omega)
    subst this
    rfl
  | succ m ih =>
    intro h
    match l with
    | a :: b :: l =>
      simp only [ptsOf, List.length_cons]
      rw [ih l (by simp at h; omega)]
    | [a] => simp at h; omega
    | [] => simp at h

/-- New memory that holds a list of points. -/
structure PN (w : World) (r : List Pt) (A : Option Addr) (c : Nat) (W : World) : Prop where
  own : W.ownsRow w.heap.size 24 2 (.slice A r.length c) r.length (cellsP r)
  below : Below w.heap.size w W
theorem PN.lift {w : World} {r : List Pt} {A : Option Addr} {c : Nat} {W W' : World} (h : PN w r A c W) (hb : Below W.heap.size W W') : PN w r A c W' := ⟨ownP_below h.own hb, bto h.below hb⟩
theorem own_sl {W : World} {B : Nat} {r : List Pt} {A : Option Addr} {c : Nat} (h : W.ownsRow B 24 2 (.slice A r.length c) r.length (cellsP r)) : SlP W (.slice A r.length c) r := by
  refine ⟨A, c, rfl, ?_⟩
  by_cases hr : r = []
  · exact .inl hr
  · right
    have hl : 0 < r.length := List.length_pos_iff.2 hr
    obtain ⟨g, rfl, hc⟩ := own_some h hl
    refine ⟨g, 0, rfl, ?_, fun i p hp => ?_⟩
    · obtain ⟨e1, _⟩ := cellsP_get r 0 r[0] (List.getElem?_eq_getElem hl)
      exact cell_lt (hc _ _ e1)
    · obtain ⟨e1, e2⟩ := cellsP_get r i p hp
      rw [Nat.zero_add]
      exact ⟨hc _ _ e1, hc _ _ e2⟩
theorem PN.sl {w : World} {r : List Pt} {A : Option Addr} {c : Nat} {W : World} (h : PN w r A c W) : SlP W (.slice A r.length c) r := own_sl h.own
/-- A point more in a row of the call's own, in a new array or not. -/
theorem PN.more {w : World} {r : List Pt} {A : Option Addr} {c : Nat} {W W1 : World} {p : Pt} {g cap : Nat} (h : PN w r A c W)
    (ho : W1.ownsRow w.heap.size 24 2 (.slice (some ⟨g, 0, none⟩) (r.length + 1) cap) (r.length + 1) (cellsP r ++ [.int .i64 p.x, .int .i64 p.y])) (hg : W.grownBy W1 (Value.slice A r.length c).ownBlock) : PN w (r ++ [p]) (some ⟨g, 0, none⟩) cap W1 := by
  refine ⟨?_, h.below.grown hg h.below.size (fun b hb => (h.own.lt b hb).1)⟩
  rw [List.length_append, cellsP_app]
  exact ho

def IntsAt (w : World) (g : Nat) (l : List Int) : Prop := ∀ i x, l[i]? = some x → w.cell? ⟨g, i, none⟩ = some (.int .i64 x)

set_option maxHeartbeats 4000000 in
theorem points_any (l : List Int) (n m g c : Nat) (hn : l.length = n) (hm : n = 2 * m) (hm2 : m ≤ 1000) (w : World) (hg : g < w.heap.size) (hl : IntsAt w g l) :
    Calls Try.prog 25 #[.slice (some ⟨g, 0, none⟩) n c] w fun e w' => ∃ A c', e = .returned (.slice A (ptsOf l).length c') ∧ PN w (ptsOf l) A c' w' := by
  have hlen := ptsOf_len l m (by omega)
  have HL := hide hl
  obtain ⟨i0, hi, hz0, hz1, hz2⟩ := info_parts info_pt
  have HI := hide hi
  have HZ0 := hide hz0
  have HZ1 := hide hz1
  have HZ2 := hide hz2
  have HLEN := hide hlen
  obtain ⟨hn1, hn2⟩ : l.length ≤ n ∧ n ≤ l.length := by omega
  obtain ⟨hm3, hm4⟩ : n ≤ 2 * m ∧ 2 * m ≤ n := by omega
  clear hl hi hz0 hz1 hz2 hlen hn hm
  go_enter Try.func25, Try.ntmps25
  go_wp2_with fail
  go_loopw [3, 4] (fun u i wr => ∃ (k j : Nat) (A : Option Addr) (c : Nat) (r : List Pt), k ≤ m ∧ (2 * k ≤ j ∧ j ≤ 2 * k) ∧ i = .int .i64 j ∧ u = .slice A r.length c ∧ Hid (r = (ptsOf l).take k) ∧ Hid (PN w r A c wr)) (fun _ i _ => n - (intOf i).toNat)
  case atStart => exact ⟨0, 0, none, 0, [], Nat.zero_le _, ⟨Nat.le_refl _, Nat.le_refl _⟩, rfl, rfl, rfl, ⟨World.ownsRow_nil _ _ _ _, Below.refl _ _⟩⟩
  case round =>
    obtain ⟨k, j, A, c, r, hk, ⟨hj1, hj2⟩, rfl, rfl, hr, hm⟩ := hrel
    have hj := hide (show j = 2 * k from by omega)
    have hrl : r.length ≤ 1000 := by rw [hr.out]; have := List.length_take_le k (ptsOf l); omega
    by_cases hlt : k < m
    · obtain ⟨x, hx⟩ : ∃ x, l[2 * k]? = some x := ⟨_, List.getElem?_eq_getElem (by omega)⟩
      obtain ⟨y, hy⟩ : ∃ y, l[2 * k + 1]? = some y := ⟨_, List.getElem?_eq_getElem (by omega)⟩
      have hsn := ptsOf_snoc l k x y hx hy
      rw [← hr.out] at hsn
      have hcx : wr.cell? ⟨g, j, none⟩ = some (.int .i64 x) := by rw [hj.out]; exact (hm.out.below.cell (p := ⟨g, _, none⟩) hg).trans (HL.out _ _ hx)
      have hcy : wr.cell? ⟨g, j + 1, none⟩ = some (.int .i64 y) := by rw [hj.out]; exact (hm.out.below.cell (p := ⟨g, _, none⟩) hg).trans (HL.out _ _ hy)
      have HSN := hide hsn
      have hgr : g < wr.heap.size := Nat.lt_of_lt_of_le hg hm.out.below.size
      have b1 : (0 : Int) ≤ j := by omega
      have b2 : (j : Int) < n := by omega
      have b3 : (j : Int) + 1 < n := by omega
      have b4 : (0 : Int) ≤ (j : Int) + 1 := by omega
      have e1 : IntKind.i64.wrap ((j : Int) + 1) = (j : Int) + 1 := IntWalk.i64_in _ (by omega)
      have e2 : ((j : Int) + 1).toNat = j + 1 := by omega
      have hfar : ∀ b, (Value.slice A r.length c).ownBlock = some b → b ≠ g := fun b hb => by have := (hm.out.own.lt b hb).1; omega
      clear hx hy hsn hr
      go_wp2_with fail
      go_region_held3 (fun w' => w'.cell? ⟨g, j, none⟩ = some (.int .i64 x) ∧ w'.cell? ⟨g, j + 1, none⟩ = some (.int .i64 y))
        (first | exact ⟨hcx, hcy⟩ | exact ⟨(World.cell?_alloc_lt wr _ ⟨g, j, none⟩ hgr).trans hcx, (World.cell?_alloc_lt wr _ ⟨g, j + 1, none⟩ hgr).trans hcy⟩ | exact ⟨(hgrow.cell_far ⟨g, j, none⟩ (by simp; omega) (fun e => hfar _ e.symm rfl)).trans ((World.cell?_alloc_lt wr _ ⟨g, j, none⟩ hgr).trans hcx), (hgrow.cell_far ⟨g, j + 1, none⟩ (by simp; omega) (fun e => hfar _ e.symm rfl)).trans ((World.cell?_alloc_lt wr _ ⟨g, j + 1, none⟩ hgr).trans hcy)⟩)
        ((refine step_append_lies _ (by rfl) _ _ _ (by rfl) w.heap.size 24 i0 (.agg #[.int .i64 0, .int .i64 0]) 2 16 Try.underlying22 HI.out HZ0.out HZ1.out HZ2.out rfl (by omega) (.slice A r.length c) r.length (cellsP r) (by rfl) ((hm.out.own.alloc _).drew) ⟨wr.heap.size, 0, none⟩ 1 1 [.int .i64 x, .int .i64 y] (by rfl) (by rfl) (World.news_of_block (cs := #[.int .i64 x, .int .i64 y]) (t := 24) (fr := (0, 0)) (heap_alloc_new wr _)) (by simp [Value.oneCell']) (by omega) (by unfold maxLen; omega) (by omega) (by have := hm.out.below.size; simp; omega) (wr.heap.size + 1) (by simp) ?_; intro gg cap w1 hown1 hgrow hat hlt))
      have hm8 : PN w (r ++ [⟨x, y⟩]) (some ⟨gg, 0, none⟩) cap w1 := PN.more (hm.out.lift (((Below.refl _ wr).alloc (Nat.le_refl _) (.cells #[.int .i64 x, .int .i64 y] 24)).drew)) hown1 hgrow
      have HM8 := hide hm8
      have hlen8 : Value.slice (some ⟨gg, 0, none⟩) (r.length + 1) cap = Value.slice (some ⟨gg, 0, none⟩) (r ++ [(⟨x, y⟩ : Pt)]).length cap := by simp
      have HL8 := hide hlen8
      clear hm8 hlen8 hown1 hgrow hat hlt hcx hcy
      go_wp2_with fail
      refine ⟨⟨k + 1, j + 2, _, cap, r ++ [(⟨x, y⟩ : Pt)], by omega, by omega, by go_num, HL8.out, hide HSN.out.symm, HM8⟩, ?_⟩
      simp [intOf]; omega
    · obtain rfl : k = m := by omega
      have hrr : r = ptsOf l := by rw [hr.out, List.take_of_length_le (by rw [HLEN.out]; omega)]
      subst hrr
      have b2 : ¬ ((j : Int) + 1 < n) := by omega
      go_wp2_with fail
      go_ret
      exact ⟨A, c, rfl, hm.out⟩

/-- The n last points, from the last one on. -/
def lastR (r : List Pt) (k : Nat) : List Pt := (r.drop (r.length - k)).reverse
theorem lastR_succ (r : List Pt) (k : Nat) (h : k < r.length) : lastR r (k + 1) = lastR r k ++ [at0 r (r.length - 1 - k)] := by
  unfold lastR
  have e : r.length - (k + 1) = r.length - 1 - k := by omega
  rw [e, dropP r (r.length - 1 - k) (by omega), show r.length - 1 - k + 1 = r.length - k from by omega, List.reverse_cons]

set_option maxHeartbeats 4000000 in
theorem back_any (r : List Pt) (v : Value) (w : World) (hv : SlP w v r) (hn : r.length ≤ 1000) :
    Calls Try.prog 20 #[v] w fun e w' => ∃ A c', e = .returned (.slice A r.reverse.length c') ∧ PN w r.reverse A c' w' := by
  obtain ⟨A0, c0, rfl, hA⟩ := hv
  have HA := hide hA
  obtain ⟨i0, hi, hz0, hz1, hz2⟩ := info_parts info_pt
  have HI := hide hi
  have HZ0 := hide hz0
  have HZ1 := hide hz1
  have HZ2 := hide hz2
  clear hA hi hz0 hz1 hz2
  go_enter Try.func20, Try.ntmps20
  go_wp2_with fail
  go_loopw [3, 4] (fun u i wr => ∃ (k : Nat) (z : Int) (A : Option Addr) (c : Nat) (q : List Pt), k ≤ r.length ∧ (z ≤ r.length - 1 - k ∧ (r.length : Int) - 1 - k ≤ z) ∧ i = .int .i64 z ∧ u = .slice A q.length c ∧ Hid (q = lastR r k) ∧ Hid (PN w q A c wr)) (fun _ i _ => (intOf i + 1).toNat)
  case atStart => exact ⟨0, _, none, 0, [], Nat.zero_le _, by omega, rfl, rfl, (by show _ = _; simp [lastR]), ⟨World.ownsRow_nil _ _ _ _, Below.refl _ _⟩⟩
  case round =>
    obtain ⟨k, z, A, c, q, hk, ⟨hz1, hz2⟩, rfl, rfl, hq, hm⟩ := hrel
    have hql : q.length ≤ 1000 := by rw [hq.out]; simp [lastR]; omega
    by_cases hlt : k < r.length
    · obtain ⟨g, o, rfl, hg, hp⟩ := HA.out.resolve_left (by rintro rfl; simp at hlt)
      obtain ⟨j, rfl⟩ : ∃ j : Nat, z = (j : Int) := ⟨r.length - 1 - k, by omega⟩
      have hj : j = r.length - 1 - k := by omega
      have hsn := lastR_succ r k hlt
      rw [← hj, ← hq.out] at hsn
      obtain ⟨hcx, hcy⟩ := (hp.below hg hm.out.below) j _ (at0_some r j (by omega))
      generalize at0 r j = p at *
      obtain ⟨x, y⟩ := p
      simp only at hcx hcy
      have HSN := hide hsn
      have b1 : (0 : Int) ≤ j := by omega
      have b2 : (j : Int) < r.length := by omega
      clear hsn hj hp hq
      go_wp2_with (at_builtin; go_must (refine wpList_append_own _ rfl (.tmp 12) (.tmp 17) 22 rfl w.heap.size 24 i0 (.agg #[.int .i64 0, .int .i64 0]) 2 16 Try.underlying22 HI.out HZ0.out HZ1.out HZ2.out rfl (by decide) (.slice A q.length c) q.length (cellsP q) rfl ?c0 ⟨wr.heap.size, 0, none⟩ 1 1 [.int .i64 x, .int .i64 y] rfl rfl ?c1 ?c2 ?c3 ?c4 ?c5 ?_))
      all_goals have hm5 : PN w q A c (wr.alloc (.cells #[.int .i64 x, .int .i64 y] 24)) := hm.out.lift ((Below.refl _ wr).alloc (Nat.le_refl _) _)
      case c0 => exact hm5.own
      case c1 => exact newP_cells wr [.int .i64 x, .int .i64 y] 24
      case c2 => intro u hu; simp at hu; rcases hu with rfl | rfl <;> rfl
      case c3 => unfold maxLen; omega
      case c4 => omega
      case c5 => exact hm5.below.size
      intro v' w9 hown' hgrow _
      have hm9 : ∃ A' c', v' = Value.slice A' (q ++ [(⟨x, y⟩ : Pt)]).length c' ∧ PN w (q ++ [⟨x, y⟩]) A' c' w9 := by
        obtain ⟨A', c', rfl⟩ := own_slice hown'
        refine ⟨A', c', by simp, ?_, hm5.below.grown hgrow hm5.below.size (fun b hb => (hm5.own.lt b hb).1)⟩
        rw [List.length_append, cellsP_app]
        exact hown'
      obtain ⟨A', c', rfl, hm9⟩ := hm9
      have HM9 := hide hm9
      clear hm9 hown' hgrow hm5 hcx hcy
      go_wp2_with fail
      refine ⟨⟨k + 1, _, A', c', q ++ [(⟨x, y⟩ : Pt)], by omega, by omega, rfl, rfl, hide HSN.out.symm, HM9⟩, ?_⟩
      simp [intOf]
    · have hkl : k = r.length := by omega
      have hqq : q = r.reverse := by rw [hq.out, hkl]; simp [lastR]
      subst hqq
      have b2 : ¬ (0 : Int) ≤ z := by omega
      clear hkl hq
      go_wp2_with fail
      go_ret
      exact ⟨A, c, rfl, hm.out⟩

/-- An append in a region that draws its order, of any number of elements (none let in), onto a row of the call's own. -/
theorem step_append_at {P : Program} {w : World} {ops : Array Oper} {o : Oper} {a : Act} {K : Act → World → Prop} {Q : Exit → Act → World → Prop} {E : Prop} (hgd : o.guard = none) (s x : Operand) (t : TypeId)
    (ho : o.op = .call { callee := .builtin .append, args := #[s, x], argTypes := #[t, t] })
    (base : Nat) (e : TypeId) (i : TypeInfo) (z : Value) (size bytes : Nat) (ht : P.underlying t = some (.slice e)) (hi : P.info? e = some i) (hz : i.zero = some z)
    (hsize : i.size = size) (hby : i.bytes = bytes) (hzs : z.cells.size = size) (hsz : 0 < size)
    (v : Value) (n : Nat) (xs : List Value) (hs : a.eval s = v) (hown : w.ownsRow base e size v n xs)
    (ad : Addr) (m c : Nat) (news : List Value) (hx : a.eval x = .slice (some ad) m c) (hl : news.length = m * size) (hnews : ∀ j u, news[j]? = some u → w.cell? (ad.add j) = some u) (h1 : ∀ u ∈ news, u.oneCell' = true)
    (h63 : n + m ≤ maxLen) (hbytes : (n + m) * bytes ≤ 140737488355328) (hbase : base ≤ w.heap.size)
    (h : ∀ v' w', w'.ownsRow base e size v' (n + m) (xs ++ news) → w.grownBy w' v.ownBlock → K (a.put o.dst v') w') :
    if Region.wanted o (yielded ops a.tmps) = true then Oper.wp P o a w K Q else E := by
  have hw : Region.wanted o (yielded ops a.tmps) = true := by simp [Region.wanted, hgd]
  rw [if_pos hw]
  obtain ⟨v', w', hr, h2, h3, _, _⟩ := run_append_own_at (P := P) w base t o.type e i z size bytes ht hi hz hsize hby hzs hsz v n xs hown ad m c news hl hnews h1 h63 hbytes hbase
  unfold Oper.wp execOp
  simp only [ho, resolve, invoke, builtin, Sem.run_bind, Sem.run_pure, Result.andThen_ok, List.map_toArray, List.map_cons, List.map_nil, hs, hx, hr]
  exact h v' w' h2 h3

theorem cellsP_nth (r : List Pt) : ∀ (j : Nat) (u : Value), (cellsP r)[j]? = some u → ∃ i p, r[i]? = some p ∧ ((j = i * 2 ∧ u = .int .i64 p.x) ∨ (j = i * 2 + 1 ∧ u = .int .i64 p.y)) := by
  induction r with
  | nil => intro j u h; simp [cellsP] at h
  | cons q r ih =>
    intro j u h
    have e : cellsP (q :: r) = [.int .i64 q.x, .int .i64 q.y] ++ cellsP r := rfl
    rw [e] at h
    match j with
    | 0 => simp at h; exact ⟨0, q, rfl, .inl ⟨rfl, h.symm⟩⟩
    | 1 => simp at h; exact ⟨0, q, rfl, .inr ⟨rfl, h.symm⟩⟩
    | j + 2 =>
      obtain ⟨i, p, h1, h2⟩ := ih j u (by simpa using h)
      exact ⟨i + 1, p, by simpa using h1, h2.elim (fun h => .inl ⟨by omega, h.2⟩) (fun h => .inr ⟨by omega, h.2⟩)⟩
theorem cellsP_one (r : List Pt) : ∀ u ∈ cellsP r, u.oneCell' = true := by
  intro u hu
  obtain ⟨j, hj⟩ := List.getElem?_of_mem hu
  obtain ⟨i, p, _, h⟩ := cellsP_nth r j u hj
  rcases h with ⟨_, rfl⟩ | ⟨_, rfl⟩ <;> rfl
theorem pts_news {W : World} {g o : Nat} {r : List Pt} (h : PtsO W g o r) : ∀ j u, (cellsP r)[j]? = some u → W.cell? (Addr.add ⟨g, o, none⟩ j) = some u := by
  intro j u hj
  obtain ⟨i, p, h1, h2⟩ := cellsP_nth r j u hj
  have e : Addr.add ⟨g, o, none⟩ j = ⟨g, o + j, none⟩ := by unfold Addr.add; split <;> simp_all
  rw [e]
  rcases h2 with ⟨rfl, rfl⟩ | ⟨rfl, rfl⟩
  · exact (h i p h1).1
  · exact (h i p h1).2
theorem PtsO.drop {W : World} {g o : Nat} {r : List Pt} (h : PtsO W g o r) (k : Nat) : PtsO W g (o + k * 2) (r.drop k) := by
  intro i p hp
  rw [List.getElem?_drop] at hp
  have := h _ _ hp
  rw [show o + k * 2 + i * 2 = o + (k + i) * 2 from by omega]
  exact this
theorem PtsO.take {W : World} {g o : Nat} {r : List Pt} (h : PtsO W g o r) (k : Nat) : PtsO W g o (r.take k) := by
  intro i p hp
  rw [List.getElem?_take] at hp
  split at hp
  · exact h _ _ hp
  · cases hp

set_option maxHeartbeats 4000000 in
theorem turned_any (r : List Pt) (g o c b : Nat) (w : World) (hn : r.length ≤ 1000) (h0 : 0 < r.length) (hc : r.length ≤ c) (hg : g < w.heap.size) (hp : PtsO w g o r) (hb : b < 256) :
    Calls Try.prog 21 #[.slice (some ⟨g, o, none⟩) r.length c, .int .u8 (b : Int)] w fun e w' => ∃ A c', e = .returned (.slice A (turnR r (b % r.length)).length c') ∧ PN w (turnR r (b % r.length)) A c' w' := by
  obtain ⟨i0, hi, hz0, hz1, hz2⟩ := info_parts info_pt
  have HI := hide hi
  have HZ0 := hide hz0
  have HZ1 := hide hz1
  have HZ2 := hide hz2
  obtain ⟨k, hk⟩ : ∃ k, k = b % r.length := ⟨_, rfl⟩
  have hkl : k < r.length := by rw [hk]; exact Nat.mod_lt _ h0
  rw [← hk]
  have e1 : (b : Int) % (r.length : Int) = (k : Int) := by rw [hk]; push_cast; rfl
  have e2 : (b : Int).tmod (r.length : Int) = (k : Int) := by rw [Int.tmod_eq_emod_of_nonneg (by omega)]; exact e1
  have HP := hide hp
  have k0 : (0 : Int) ≤ k := by omega
  have k1 : (k : Int) < r.length := by omega
  have k2 : (k : Int) ≤ r.length := by omega
  have k3 : (k : Int) ≤ c := by omega
  have kc : ¬ c = k := by omega
  have kr : ¬ r = [] := by rintro rfl; simp at h0
  have kz : ¬ (r.length : Int) = 0 := by omega
  have kz2 : ¬ r.length = 0 := by omega
  have ky : ((r.length : Int) == 0) = false := by rw [beq_eq_false_iff_ne]; omega
  clear hi hz0 hz1 hz2 hk hp
  go_enter Try.func21, Try.ntmps21
  go_wp2_with fail
  have ho0 : (w.alloc (.cells #[] 24)).drew.ownsRow w.heap.size 24 2 (.slice (some ⟨w.heap.size, 0, none⟩) 0 0) 0 [] := ⟨rfl, .inr ⟨w.heap.size, 0, #[], rfl, Nat.le_refl _, heap_alloc_new w _, Nat.le_refl _, Nat.zero_le _, rfl, rfl⟩⟩
  have hb0 : Below w.heap.size w (w.alloc (.cells #[] 24)).drew := ((Below.refl _ w).alloc (Nat.le_refl _) _).drew
  have hlk : (r.drop k).length = r.length - k := by simp
  have hlt : (r.take k).length = k := by simp; omega
  have HLK := hide hlk
  have HLT := hide hlt
  have HO := hide ho0
  have HB := hide hb0
  clear hlk hlt ho0 hb0
  go_region_held3 (fun _ => True) (trivial) (first
    | ((refine step_append_at (by rfl) (.tmp 14) (.tmp 17) 22 (by rfl) w.heap.size 24 i0 (.agg #[.int .i64 0, .int .i64 0]) 2 16 Try.underlying22 HI.out HZ0.out HZ1.out HZ2.out rfl (by omega) (.slice (some ⟨w.heap.size, 0, none⟩) 0 0) 0 [] (by rfl) HO.out ⟨g, o + k * 2, none⟩ (r.length - k) (c - k) (cellsP (r.drop k)) (by rfl) (by rw [cellsP_len, HLK.out]) (pts_news ((HP.out.below hg HB.out).drop k)) (cellsP_one _) (by unfold maxLen; omega) (by omega) (by simp) ?_; intro v1 w1 hown1 hgrow1; obtain ⟨A1, c1, rfl⟩ := own_slice hown1; have hb1 := hide (HB.out.grown hgrow1 (by simp) (fun b hb => by cases hb; exact Nat.le_refl _)); have HO1 := hide hown1; clear hown1 hgrow1))
    | ((refine step_append_at (by rfl) (.tmp 18) (.tmp 21) 22 (by rfl) w.heap.size 24 i0 (.agg #[.int .i64 0, .int .i64 0]) 2 16 Try.underlying22 HI.out HZ0.out HZ1.out HZ2.out rfl (by omega) _ _ _ (by rfl) HO1.out ⟨g, o, none⟩ k c (cellsP (r.take k)) (by rfl) (by rw [cellsP_len, HLT.out]) (pts_news ((HP.out.below hg hb1.out).take k)) (cellsP_one _) (by unfold maxLen; omega) (by omega) hb1.out.size ?_; intro v2 w2 hown2 hgrow2; obtain ⟨A2, c2, rfl⟩ := own_slice hown2; have hb2 := hide (hb1.out.grown hgrow2 hb1.out.size (fun b hb => (HO1.out.lt b hb).1)); have HO2 := hide hown2; clear hown2 hgrow2)))
  have hlen : (turnR r k).length = r.length - k + k := by unfold turnR; rw [List.length_append, HLK.out, HLT.out]
  have HLEN := hide hlen
  have hPN : PN w (turnR r k) A2 c2 w2 := by
    refine ⟨?_, hb2.out⟩
    have h := HO2.out
    rw [Nat.zero_add, List.nil_append, ← cellsP_app] at h
    rw [hlen]
    exact h
  have HPN := hide hPN
  clear hlen hPN
  go_wp2_with fail
  go_ret
  exact ⟨A2, c2, by rw [HLEN.out]; rfl, HPN.out⟩

theorem turned_nil (A : Option Addr) (c : Nat) (b : Int) (w : World) :
    Calls Try.prog 21 #[.slice A 0 c, .int .u8 b] w fun e w' => e = .returned (.slice none 0 0) ∧ w = w' := by
  go_enter Try.func21, Try.ntmps21
  go_wp2_with fail
  go_ret
  exact ⟨rfl, rfl⟩

theorem points_lit (l : List Int) (n m : Nat) (q : List Pt) (hn : l.length = n) (hm : n = 2 * m) (hm2 : m ≤ 1000) (hq : ptsOf l = q) (cs : Array Value) (hcs : cs = (l.map (Value.int .i64)).toArray) (t : TypeId) (c : Nat) (w : World) :
    Calls Try.prog 25 #[.slice (some ⟨w.heap.size, 0, none⟩) n c] (w.alloc (.cells cs t)) fun e w' => ∃ v, e = .returned v ∧ SlP w' v q ∧ Below w.heap.size w w' := by
  subst hq
  refine (points_any l n m w.heap.size c hn hm hm2 _ (by simp) (fun i x hx => ?_)).mono ?_
  · rw [cell_of_row (w.alloc (.cells cs t)) w.heap.size i cs t (0, 0) (heap_alloc_new w _), hcs]
    simp [hx]
  · rintro e w' ⟨A, c', rfl, h⟩
    exact ⟨_, rfl, h.sl, ((Below.refl _ w).alloc (Nat.le_refl _) _).trans (h.below.mono (by simp))⟩

/-- A slice value that reads as a list of points, of a capacity that covers it. -/
def SlC (W : World) (v : Value) (r : List Pt) : Prop := ∃ A c, v = .slice A r.length c ∧ r.length ≤ c ∧ (r = [] ∨ ∃ g o, A = some ⟨g, o, none⟩ ∧ g < W.heap.size ∧ PtsO W g o r)
theorem SlC.sl {W : World} {v : Value} {r : List Pt} (h : SlC W v r) : SlP W v r := by
  obtain ⟨A, c, hv, _, h⟩ := h
  exact ⟨A, c, hv, h⟩
theorem SlC.below {W W' : World} {v : Value} {r : List Pt} (h : SlC W v r) (hb : Below W.heap.size W W') : SlC W' v r := by
  obtain ⟨A, c, hv, hc, h⟩ := h
  refine ⟨A, c, hv, hc, ?_⟩
  rcases h with h | ⟨g, o, hA, hg, hp⟩
  · exact .inl h
  · exact .inr ⟨g, o, hA, Nat.lt_of_lt_of_le hg hb.size, hp.below hg hb⟩
theorem turned_sl (r : List Pt) (v : Value) (b : Nat) (w : World) (hv : SlC w v r) (hn : r.length ≤ 1000) (hb : b < 256) :
    Calls Try.prog 21 #[v, .int .u8 (b : Int)] w fun e w' => ∃ u, e = .returned u ∧ SlP w' u (turnR r (b % r.length)) ∧ Below w.heap.size w w' := by
  obtain ⟨A, c, rfl, hc, h⟩ := hv
  rcases h with rfl | ⟨g, o, rfl, hg, hp⟩
  · refine (turned_nil A c b w).mono ?_
    rintro e w' ⟨rfl, rfl⟩
    exact ⟨_, rfl, ⟨none, 0, by simp [turnR], .inl (by simp [turnR])⟩, Below.refl _ _⟩
  · by_cases h0 : r.length = 0
    · obtain rfl := List.eq_nil_of_length_eq_zero h0
      refine (turned_nil (some ⟨g, o, none⟩) c b w).mono ?_
      rintro e w' ⟨rfl, rfl⟩
      exact ⟨_, rfl, ⟨none, 0, by simp [turnR], .inl (by simp [turnR])⟩, Below.refl _ _⟩
    · refine (turned_any r g o c b w hn (by omega) hc hg hp hb).mono ?_
      rintro e w' ⟨A, c', rfl, h⟩
      exact ⟨_, rfl, h.sl, h.below⟩
theorem back_sl (r : List Pt) (v : Value) (w : World) (hv : SlP w v r) (hn : r.length ≤ 1000) :
    Calls Try.prog 20 #[v] w fun e w' => ∃ u, e = .returned u ∧ SlP w' u r.reverse ∧ Below w.heap.size w w' := by
  refine (back_any r v w hv hn).mono ?_
  rintro e w' ⟨A, c', rfl, h⟩
  exact ⟨_, rfl, h.sl, h.below⟩
end Go.Proofs.Ytmklnioedeailaa
