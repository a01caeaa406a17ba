/-
  The reference's Parts: its memory.
-/
import Derived.Test.YtpiocaomlifljaaNetMh
import Derived.Test.YtpiocaomlifljaaPlainW
namespace Go.Proofs.Ytpiocaomlifljaa
open Go.RowKit Go.Proofs.PlLex Go.Proofs.PlNet Go.Proofs.PlMap

/-- Lists of strings, each in a row of its own. -/
structure SrI (w2 : World) (rows : List (Value × List BA)) (W : World) : Prop where
  row : ∀ x ∈ rows, W.ownsRow w2.heap.size 9 1 x.1 x.2.length (x.2.map .string)
  ne : rows.Pairwise (fun x y => ∀ b, x.1.ownBlock = some b → y.1.ownBlock ≠ some b)
theorem SrI.grow {w2 W W' : World} {pre post : List (Value × List BA)} {x x' : Value × List BA} {row : Option Nat} (h : SrI w2 (pre ++ x :: post) W) (hg : W.grownBy W' row) (hrow : row = none ∨ row = x.1.ownBlock)
    (hr : W'.ownsRow w2.heap.size 9 1 x'.1 x'.2.length (x'.2.map .string)) (hat : ∀ b, x'.1.ownBlock = some b → x.1.ownBlock = some b ∨ W.heap.size ≤ b) : SrI w2 (pre ++ x' :: post) W' := by
  obtain ⟨n1, n2, n3⟩ := List.pairwise_append.1 h.ne
  obtain ⟨n4, n5⟩ := List.pairwise_cons.1 n2
  have far : ∀ y, y ∈ pre ++ post → (∀ b, y.1.ownBlock = some b → x.1.ownBlock ≠ some b) ∧ W.ownsRow w2.heap.size 9 1 y.1 y.2.length (y.2.map .string) := fun y hy => by
    rcases List.mem_append.1 hy with hy | hy
    · exact ⟨fun b hb => n3 y hy x (List.mem_cons_self ..) b hb, h.row y (List.mem_append_left _ hy)⟩
    · exact ⟨fun b hb hx => n4 y hy b hx hb, h.row y (List.mem_append_right _ (List.mem_cons_of_mem _ hy))⟩
  have kept : ∀ y, y ∈ pre ++ post → W'.ownsRow w2.heap.size 9 1 y.1 y.2.length (y.2.map .string) := fun y hy => by
    obtain ⟨f1, f2⟩ := far y hy
    refine own_kept f2 hg (fun b h1 h2 => ?_)
    rcases hrow with e | e
    · rw [e] at h2; cases h2
    · rw [e] at h2; exact f1 b h1 h2
  have apart : ∀ y, y ∈ pre ++ post → ∀ b, y.1.ownBlock = some b → x'.1.ownBlock ≠ some b := fun y hy b h1 h2 => by
    obtain ⟨f1, f2⟩ := far y hy
    rcases hat b h2 with h3 | h3
    · exact f1 b h1 h3
    · obtain ⟨_, cur, hc⟩ := own_block f2 h1
      have := lt_of_block hc
      omega
  refine ⟨fun y hy => ?_, ?_⟩
  · rcases List.mem_append.1 hy with hy | hy
    · exact kept y (List.mem_append_left _ hy)
    · rcases List.mem_cons.1 hy with rfl | hy
      · exact hr
      · exact kept y (List.mem_append_right _ hy)
  · refine List.pairwise_append.2 ⟨n1, List.pairwise_cons.2 ⟨fun y hy b h1 h2 => apart y (List.mem_append_right _ hy) b h2 h1, n5⟩, fun y hy z hz b h1 => ?_⟩
    rcases List.mem_cons.1 hz with rfl | hz
    · exact apart y (List.mem_append_left _ hy) b h1
    · exact n3 y hy z (List.mem_cons_of_mem _ hz) b h1
theorem SrI.kept {w2 W W' : World} {rows : List (Value × List BA)} {row : Option Nat} (h : SrI w2 rows W) (hg : W.grownBy W' row) (hn : ∀ x ∈ rows, ∀ b, x.1.ownBlock = some b → row ≠ some b) : SrI w2 rows W' :=
  ⟨fun x hx => own_kept (h.row x hx) hg (hn x hx), h.ne⟩
def nilR : Value × List BA := (.slice none 0 0, [])
/-- The parts so far, the nodes of those, the part that grows, its nodes in order. -/
structure RpI (w2 : World) (vo : Value) (A B C : Value × List BA) (inn : List (Value × List BA)) (W : World) : Prop where
  below : Below w2.heap.size w2 W
  out : W.ownsRow w2.heap.size 39 1 vo inn.length (inn.map Prod.fst)
  sr : SrI w2 ([A, B] ++ C :: inn) W
theorem RpI.lift {w2 W W' : World} {vo : Value} {A B C : Value × List BA} {inn : List (Value × List BA)} (h : RpI w2 vo A B C inn W) (hb : Below W.heap.size W W') : RpI w2 vo A B C inn W' :=
  ⟨bto h.below hb, own_below h.out hb, h.sr.kept (grown_none hb) (fun _ _ _ _ => by simp)⟩
theorem RpI.start {w2 W : World} (hb : Below w2.heap.size w2 W) : RpI w2 (.slice none 0 0) nilR nilR nilR [] W := by
  refine ⟨hb, World.ownsRow_nil _ _ _ _, fun x hx => ?_, ?_⟩
  · simp [nilR] at hx
    subst hx
    exact World.ownsRow_nil _ _ _ _
  · simp [nilR, Value.ownBlock]
theorem below_some {a b c : World} {row : Option Nat} (h : Below a.heap.size a b) (hg : b.grownBy c row) (hk : ∀ r, row = some r → a.heap.size ≤ r) : Below a.heap.size a c := below_row h hg hk
theorem RpI.row {w2 W : World} {vo : Value} {A B C : Value × List BA} {inn : List (Value × List BA)} (h : RpI w2 vo A B C inn W) {x : Value × List BA} (hx : x ∈ [A, B] ++ C :: inn) : W.ownsRow w2.heap.size 9 1 x.1 x.2.length (x.2.map .string) := h.sr.row x hx
theorem RpI.out_kept {w2 W W' : World} {vo : Value} {A B C : Value × List BA} {inn : List (Value × List BA)} (h : RpI w2 vo A B C inn W) {x : Value × List BA} (hx : x ∈ [A, B] ++ C :: inn) {row : Option Nat} (hg : W.grownBy W' row) (hrow : row = none ∨ row = x.1.ownBlock) :
    W'.ownsRow w2.heap.size 39 1 vo inn.length (inn.map Prod.fst) ∧ Below w2.heap.size w2 W' := by
  refine ⟨own_kept h.out hg (fun b h1 h2 => ?_), below_row h.below hg (fun r hr => ?_)⟩
  · rcases hrow with e | e
    · rw [e] at h2; cases h2
    · rw [e] at h2
      exact row_ne_row h.out (h.row hx) (by decide) b h1 h2
  · rcases hrow with e | e
    · rw [e] at hr; cases hr
    · rw [e] at hr
      exact (own_block (h.row hx) hr).1
theorem RpI.setA {w2 W W' : World} {vo : Value} {A A' B C : Value × List BA} {inn : List (Value × List BA)} {row : Option Nat} (h : RpI w2 vo A B C inn W) (hg : W.grownBy W' row) (hrow : row = none ∨ row = A.1.ownBlock)
    (hr : W'.ownsRow w2.heap.size 9 1 A'.1 A'.2.length (A'.2.map .string)) (hat : ∀ b, A'.1.ownBlock = some b → A.1.ownBlock = some b ∨ W.heap.size ≤ b) : RpI w2 vo A' B C inn W' :=
  ⟨(h.out_kept (x := A) (by simp) hg hrow).2, (h.out_kept (x := A) (by simp) hg hrow).1, SrI.grow (pre := []) (post := B :: C :: inn) h.sr hg hrow hr hat⟩
theorem RpI.setB {w2 W W' : World} {vo : Value} {A B B' C : Value × List BA} {inn : List (Value × List BA)} {row : Option Nat} (h : RpI w2 vo A B C inn W) (hg : W.grownBy W' row) (hrow : row = none ∨ row = B.1.ownBlock)
    (hr : W'.ownsRow w2.heap.size 9 1 B'.1 B'.2.length (B'.2.map .string)) (hat : ∀ b, B'.1.ownBlock = some b → B.1.ownBlock = some b ∨ W.heap.size ≤ b) : RpI w2 vo A B' C inn W' :=
  ⟨(h.out_kept (x := B) (by simp) hg hrow).2, (h.out_kept (x := B) (by simp) hg hrow).1, SrI.grow (pre := [A]) (post := C :: inn) h.sr hg hrow hr hat⟩
theorem RpI.setC {w2 W W' : World} {vo : Value} {A B C C' : Value × List BA} {inn : List (Value × List BA)} {row : Option Nat} (h : RpI w2 vo A B C inn W) (hg : W.grownBy W' row) (hrow : row = none ∨ row = C.1.ownBlock)
    (hr : W'.ownsRow w2.heap.size 9 1 C'.1 C'.2.length (C'.2.map .string)) (hat : ∀ b, C'.1.ownBlock = some b → C.1.ownBlock = some b ∨ W.heap.size ≤ b) : RpI w2 vo A B C' inn W' :=
  ⟨(h.out_kept (x := C) (by simp) hg hrow).2, (h.out_kept (x := C) (by simp) hg hrow).1, SrI.grow (pre := [A, B]) (post := inn) h.sr hg hrow hr hat⟩
/-- The part in order goes to the parts. -/
theorem RpI.push {w2 W W' : World} {vo vo' : Value} {A B C : Value × List BA} {inn : List (Value × List BA)} (h : RpI w2 vo A B C inn W) (hg : W.grownBy W' vo.ownBlock)
    (hr : W'.ownsRow w2.heap.size 39 1 vo' (inn.length + 1) (inn.map Prod.fst ++ [C.1])) : RpI w2 vo' A nilR nilR (inn ++ [C]) W' := by
  have hk : SrI w2 ([A, B] ++ C :: inn) W' := h.sr.kept hg (fun x hx b h1 h2 => row_ne_row h.out (h.row hx) (by decide) b h2 h1)
  have hsym : ∀ {x y : Value × List BA}, (∀ b, x.1.ownBlock = some b → y.1.ownBlock ≠ some b) → ∀ b, y.1.ownBlock = some b → x.1.ownBlock ≠ some b := fun hxy b h1 h2 => hxy b h2 h1
  obtain ⟨n1, n2⟩ := List.pairwise_cons.1 (show (A :: B :: C :: inn).Pairwise _ from hk.ne)
  obtain ⟨_, n3⟩ := List.pairwise_cons.1 n2
  have hperm : (C :: inn).Perm (inn ++ [C]) := (List.perm_append_singleton C inn).symm
  have n4 := (hperm.pairwise_iff (fun {x y} => hsym)).1 n3
  refine ⟨below_row h.below hg (fun r hr => (own_block h.out hr).1), by simpa using hr, fun x hx => ?_, ?_⟩
  · have : x = A ∨ x = nilR ∨ x ∈ C :: inn := by
      simp only [List.cons_append, List.nil_append, List.mem_cons, List.mem_append] at hx ⊢
      rcases hx with hx | hx | hx | hx | hx
      · exact .inl hx
      · exact .inr (.inl hx)
      · exact .inr (.inl hx)
      · exact .inr (.inr (.inr hx))
      · simp at hx; exact .inr (.inr (.inl hx))
    rcases this with rfl | rfl | hx
    · exact hk.row _ (by simp)
    · exact World.ownsRow_nil _ _ _ _
    · exact hk.row x (by simp only [List.cons_append, List.nil_append, List.mem_cons] at hx ⊢; exact .inr (.inr hx))
  · show (A :: nilR :: nilR :: (inn ++ [C])).Pairwise _
    refine List.pairwise_cons.2 ⟨fun y hy b h1 h2 => ?_, List.pairwise_cons.2 ⟨fun y hy b h1 => by simp [nilR, Value.ownBlock] at h1, List.pairwise_cons.2 ⟨fun y hy b h1 => by simp [nilR, Value.ownBlock] at h1, n4⟩⟩⟩
    simp only [List.mem_cons] at hy
    rcases hy with rfl | rfl | hy
    · simp [nilR, Value.ownBlock] at h2
    · simp [nilR, Value.ownBlock] at h2
    · exact n1 y (List.mem_cons_of_mem _ (hperm.mem_iff.2 hy)) b h1 h2
theorem RpI.strs {w2 W : World} {vo : Value} {A B C : Value × List BA} {inn : List (Value × List BA)} (h : RpI w2 vo A B C inn W) {x : Value × List BA} (hx : x ∈ [A, B] ++ C :: inn) : StS W x.1 x.2 := strs_of_row (h.row hx) rfl
theorem RpI.grs {w2 W : World} {vo : Value} {A B C : Value × List BA} {inn : List (Value × List BA)} (h : RpI w2 vo A B C inn W) : GrS W vo (inn.map Prod.snd) := by
  rcases h.out.2 with ⟨hv, hn⟩ | ⟨g, cap, cur, hv, hg, hh, hc, _⟩
  · subst hv
    have : inn = [] := List.length_eq_zero_iff.1 hn
    subst this
    exact ⟨none, 0, rfl, Nat.le_refl _, .inl rfl⟩
  · subst hv
    refine ⟨some ⟨g, 0, none⟩, cap, by rw [List.length_map], by rw [List.length_map]; exact hc, .inr ⟨g, 0, rfl, lt_of_block hh, fun i r hi => ?_⟩⟩
    rw [List.getElem?_map, Option.map_eq_some_iff] at hi
    obtain ⟨y, hy, rfl⟩ := hi
    have hcell := h.out.cells (g := g) rfl i y.1 (by rw [List.getElem?_map, hy]; rfl)
    have e : (⟨g, 0, none⟩ : Addr).add i = ⟨g, 0 + i, none⟩ := by simp only [Addr.add, Nat.zero_add]; split <;> simp_all
    rw [e] at hcell
    exact ⟨y.1, hcell, h.strs (x := y) (by simp only [List.cons_append, List.nil_append, List.mem_cons]; exact .inr (.inr (.inr (List.mem_of_getElem? hy))))⟩
def Rps (w2 : World) (vo : Value) (A B C : Value × List BA) (inn : List (Value × List BA)) : Type := {W : World // RpI w2 vo A B C inn W}
def Rps.w {w2 : World} {vo : Value} {A B C : Value × List BA} {inn : List (Value × List BA)} (u : Rps w2 vo A B C inn) : World := u.1
theorem Rps.go {w2 : World} {vo : Value} {A B C : Value × List BA} {inn : List (Value × List BA)} (u : Rps w2 vo A B C inn) {w8 : World} (hb : Below u.w.heap.size u.w w8) : ∃ u' : Rps w2 vo A B C inn, w8 = u'.w := ⟨⟨w8, u.2.lift hb⟩, rfl⟩
/-- A new row with one string. -/
theorem row_one (w2 W : World) (s : BA) (h : w2.heap.size ≤ W.heap.size) : (W.alloc (.cells #[.string s] 9)).ownsRow w2.heap.size 9 1 (.slice (some ⟨W.heap.size, 0, none⟩) 1 1) 1 [.string s] :=
  World.ownsRow_lit W #[.string s] 1 h (by unfold maxLen; omega) rfl
end Go.Proofs.Ytpiocaomlifljaa

/-! The reference's Parts, walked. -/
namespace Go.Proofs.Ytpiocaomlifljaa
open Go.RowKit Go.Proofs.PlLex Go.Proofs.PlNet Go.Proofs.PlMap

def ObsA (W : World) (A : Option Addr) (L : List Ob) : Prop := L = [] ∨ ∃ g o, A = some ⟨g, o, none⟩ ∧ g < W.heap.size ∧ ObsO W g o L
theorem obs_a {W : World} {v : Value} {L : List Ob} (h : ObsS W v L) : ∃ A c, v = .slice A L.length c ∧ ObsA W A L := by
  obtain ⟨A, c, hv, _, h⟩ := h
  exact ⟨A, c, hv, h⟩
theorem ObsA.below {W W' : World} {A : Option Addr} {L : List Ob} (h : ObsA W A L) (hb : Below W.heap.size W W') : ObsA W' A L := by
  rcases h with h | ⟨g, o, hA, hg, hp⟩
  · exact .inl h
  · exact .inr ⟨g, o, hA, Nat.lt_of_lt_of_le hg hb.size, hp.below hg hb⟩
def anyH (P r : List BA) : Bool := r.any (fun s => hasS s P)
theorem anyH_snoc (P : List BA) {r : List BA} {m : Nat} {s : BA} (h : r[m]? = some s) : anyH P (r.take (m + 1)) = (anyH P (r.take m) || hasS s P) := by
  unfold anyH
  rw [List.take_add_one, h, List.any_append]
  simp
theorem anyH_iff (P r : List BA) : anyH P r = true ↔ ∃ s ∈ r, s ∈ P := by
  unfold anyH
  rw [List.any_eq_true]
  constructor
  · rintro ⟨s, h1, h2⟩
    exact ⟨s, h1, (hasS_mem _ _).1 h2⟩
  · rintro ⟨s, h1, h2⟩
    exact ⟨s, h1, (hasS_mem _ _).2 h2⟩
def inL (M : List Ob) (x : BA) : Bool := M.any (fun o => hasS x o.refs)
theorem inL_snoc (x : BA) {M : List Ob} {k : Nat} {t : Ob} (h : M[k]? = some t) : inL (M.take (k + 1)) x = (inL (M.take k) x || hasS x t.refs) := by
  unfold inL
  rw [List.take_add_one, h, List.any_append]
  simp
theorem inL_ways (l : List Ob) (x : BA) : inL (waysO l) x = inWays l x := by
  rw [Bool.eq_iff_iff, inWays_mem]
  unfold inL
  rw [List.any_eq_true]
  constructor
  · rintro ⟨o, h1, h2⟩
    exact ⟨o, h1, (hasS_mem _ _).1 h2⟩
  · rintro ⟨o, h1, h2⟩
    exact ⟨o, h1, (hasS_mem _ _).2 h2⟩
theorem of_nodes {l : List Ob} (hm : mapB l = true) : ofL l 1 = nodesO l := by
  unfold ofL nodesO
  rw [if_pos hm]
  apply List.filter_congr
  intro o _
  unfold sndB soundW
  by_cases h : o.kind = 1
  · simp [h]
  · simp [h]
def lenOf : Value → Nat
  | .slice _ n _ => n
  | _ => 0
def agOf : Value → Nat
  | .bool true => 1
  | _ => 0
theorem no_hasS {s : BA} {P : List BA} (h : hasS s P = false) : ¬ s ∈ P := fun k => by rw [(hasS_mem s P).2 k] at h; cases h
theorem take_len {α : Type} {l : List α} {m : Nat} (h : ¬ m < l.length) (h2 : m ≤ l.length) : l.take m = l := List.take_of_length_le (by omega)
theorem split_at {l : List Ob} {k : Nat} {t : Ob} (h : l[k]? = some t) : l.map Ob.id = (l.take k).map Ob.id ++ t.id :: (l.drop (k + 1)).map Ob.id := by
  obtain ⟨hk, rfl⟩ := List.getElem?_eq_some_iff.1 h
  conv => lhs; rw [← List.take_append_drop k l, List.drop_eq_getElem_cons hk, List.map_append, List.map_cons]
theorem ids_take {l : List Ob} {k : Nat} {t : Ob} (h : l[k]? = some t) : (l.take (k + 1)).map Ob.id = (l.take k).map Ob.id ++ [t.id] := by
  rw [List.take_add_one, h, List.map_append]
  rfl
theorem ord_take {l : List Ob} {k : Nat} {t : Ob} (P : List BA) (h : l[k]? = some t) : ordL ((l.take (k + 1)).map Ob.id) P = ordL ((l.take k).map Ob.id) P ++ (if hasS t.id P then [t.id] else []) := by
  have := ordL_snoc (l.map Ob.id) P k t.id (by rw [List.getElem?_map, h]; rfl)
  rwa [← List.map_take, ← List.map_take] at this
theorem len_map {α β : Type} (f : α → β) (l : List α) : (l.map f).length = l.length := List.length_map ..
theorem ordL_len (ids P : List BA) : (ordL ids P).length ≤ ids.length := List.length_filter_le _ _
theorem forget_len {l M : List Ob} {out : List (List BA)} (h : PrP l (M.map Ob.id) out) : out.length ≤ M.length := by have := h.len; rwa [List.length_map] at this

set_option maxRecDepth 100000 in
set_option maxHeartbeats 64000000 in
theorem parts16_any (l : List Ob) (v : Value) (PP : List (List BA)) (w : World) (hv : MapI w v l) (hl : l.length ≤ 100000) (hP : mapB l = true → PtsI l PP) (hN : mapB l = false → PP = []) :
    Calls Try.prog 20 #[.agg #[v]] w fun e w' => ∃ rv, e = .returned rv ∧ GrS w' rv PP ∧ Below w.heap.size w w' := by
  obtain ⟨i0, hi, hz0, hz1, hz2⟩ := info_parts info_string
  obtain ⟨j0, hj, hy0, hy1, hy2⟩ := info_parts info_strs
  have HI := hide hi
  have HZ0 := hide hz0
  have HZ1 := hide hz1
  have HZ2 := hide hz2
  have HJ := hide hj
  have HY0 := hide hy0
  have HY1 := hide hy1
  have HY2 := hide hy2
  have HV := hide hv
  have HOK := hide hv.ok
  have HP := hide hP
  have HN := hide hN
  obtain ⟨A, c, rfl, _, _⟩ := id hv.obs
  obtain ⟨wo, hwo⟩ : ∃ wo, w.alloc (.cells #[.slice A l.length c] 24) = wo := ⟨_, rfl⟩
  have HBO : Hid (Below w.heap.size w wo) := by rw [← hwo]; exact (Below.refl _ _).alloc (Nat.le_refl _) _
  have hbl : wo.heap[w.heap.size]? = some (.cells #[.slice A l.length c] 24 (0, 0)) := by rw [← hwo]; exact heap_alloc_new _ _
  have HBL := hide hbl
  have dm := (blk1 hbl).1
  have HO2 := hide (of16_any l _ 2 wo (HV.out.below HBO.out))
  have HL2 := hide (fun o (h : o ∈ ofL l 2) => ofL_sub h)
  have HL1 := hide (fun o (h : o ∈ ofL l 1) => ofL_sub h)
  have HWY := hide (fun (h : mapB l = true) => of_ways h)
  have HND := hide (fun (h : mapB l = true) => of_nodes h)
  have hn1 := Nat.le_trans (ofL_len l 1) hl
  have hn2 := Nat.le_trans (ofL_len l 2) hl
  have HO1 := hide (fun W (hb : Below wo.heap.size wo W) => of16_any l _ 1 W (HV.out.below (bto HBO.out hb)))
  generalize ofL l 2 = L2 at *
  generalize ofL l 1 = L1 at *
  clear hv hbl hi hz0 hz1 hz2 hj hy0 hy1 hy2 hP hN
  go_enter Try.func20, Try.ntmps20
  go_wp2_with fail
  clear hwo dm
  refine HO2.out.mono ?_
  rintro _ wa ⟨rv2, rfl, hob2, b2⟩
  obtain ⟨A2, c2, rfl, ha2⟩ := obs_a hob2
  have e0 := (blk1 (blkB b2 HBL.out)).1
  have HA2a := hide ha2
  have HBA := hide (bto HBO.out b2)
  have HOW := hide (HO1.out wa b2)
  clear HO2 HO1 b2 hob2 ha2
  go_wp2_with fail
  refine HOW.out.mono ?_
  rintro _ w2 ⟨rv1, rfl, hob1, b1⟩
  obtain ⟨A1, c1, rfl, ha1⟩ := obs_a hob1
  have HA1 := hide ha1
  have HA2 := hide (HA2a.out.below b1)
  have HB2 := hide (bto HBA.out b1)
  clear HOW b1 hob1 ha1 HA2a HBA e0
  go_wp2_with fail
  go_loopw [5, 6, 7] (fun vo va i wr => ∃ (k : Nat) (Ao : Option Addr) (co : Nat) (Ad : Option Addr) (cd : Nat) (D : List BA) (inn : List (Value × List BA)), k ≤ L1.length ∧ i = .int .i64 k ∧ vo = .slice Ao inn.length co ∧ va = .slice Ad D.length cd ∧ Hid (RpI w2 (.slice Ao inn.length co) (.slice Ad D.length cd, D) nilR nilR inn wr) ∧ Hid (PrP l ((L1.take k).map Ob.id) (inn.map Prod.snd)) ∧ Hid (DnI l D (inn.map Prod.snd))) (fun _ _ i _ => L1.length - (intOf i).toNat)
  case atStart => exact ⟨0, none, 0, none, 0, [], [], Nat.zero_le _, rfl, rfl, rfl, RpI.start (Below.refl _ _), PrP.nil l, DnI.nil l⟩
  case round =>
    obtain ⟨k, Ao, co, Ad, cd, D, inn, hk, rfl, rfl, rfl, hrp, hpr, hdn⟩ := hrel
    by_cases hlt : k < L1.length
    · obtain ⟨g1, o1, rfl, hg1, hp1⟩ := HA1.out.resolve_left (by rintro rfl; simp at hlt)
      have hkt := List.getElem?_eq_getElem hlt
      generalize L1[k] = t at *
      obtain ⟨rvt, tvt, hot⟩ := hp1 k t hkt
      have c0 := (hot.below hg1 hrp.out.below).c0
      obtain ⟨hmb, _, _, _⟩ := HL1.out t (List.mem_of_getElem? hkt)
      have HM := hide hmb
      have hwy := HWY.out hmb
      have hnd := HND.out hmb
      subst hwy
      subst hnd
      have hdl := hdn.out.len
      have HKT := hide hkt
      have HKL := hide hlt
      have HMS := hide (show (nodesO l).length - (k + 1) < (nodesO l).length - k from by omega)
      have k0 : (0 : Int) ≤ k := by omega
      have k1 : (k : Int) < (nodesO l).length := by omega
      have HC0 := hide (fun W (hb : Below w2.heap.size w2 W) i u (h : (nodesO l)[i]? = some u) => by
        obtain ⟨_, _, h2⟩ := hp1 i u h
        exact (h2.below hg1 hb).c0)
      have HDL := hide hdl
      have HRP := hide hrp.out
      have HPR := hide hpr.out
      have HDN := hide hdn.out
      clear hlt hkt hot hp1 hmb hdl hrp hpr hdn HA1
      go_wp2_with fail
      clear c0
      go_loop [9, 10] (fun us i => ∃ (m : Nat) (b : Bool), m ≤ (waysO l).length ∧ i = .int .i64 m ∧ us = .bool b ∧ Hid (b = inL ((waysO l).take m) t.id)) (fun _ i => (waysO l).length - (intOf i).toNat)
      case atStart => exact ⟨0, false, Nat.zero_le _, rfl, rfl, hide rfl⟩
      case round =>
        obtain ⟨m, b, hm, rfl, rfl, hb⟩ := hrel
        by_cases hmt : m < (waysO l).length
        · obtain ⟨g2, o2, rfl, hg2, hp2⟩ := HA2.out.resolve_left (by intro e; rw [e] at hmt; simp at hmt)
          have hmy := List.getElem?_eq_getElem hmt
          generalize (waysO l)[m] = y at *
          obtain ⟨rvy, tvy, hoy⟩ := hp2 m y hmy
          have hoy2 := hoy.below hg2 HRP.out.below
          obtain ⟨Ar, cr, hrv, _⟩ := id hoy2.refs
          subst hrv
          have d4 := hoy2.c4
          have hok := HOK.out y (HL2.out y (List.mem_of_getElem? hmy)).2.1
          have hin := in_any y.refs t.id _ wr hoy2.refs hok.2.1
          obtain ⟨q, hq⟩ := bool_of (b := hasS t.id y.refs)
          rw [hq] at hin
          have HIN := hide hin
          have m0 : (0 : Int) ≤ m := by omega
          have m1 : (m : Int) < (waysO l).length := by omega
          have HSN := hide (inL_snoc t.id hmy)
          rw [hq] at HSN
          have HML := hide hmt
          have HMM := hide (show (waysO l).length - (m + 1) < (waysO l).length - m from by omega)
          have HB := hide hb.out
          clear hmt hmy hoy hoy2 hok hin hq hp2 hb
          cases b with
          | true =>
            have HB3 := hide (show true = inL ((waysO l).take (m + 1)) t.id by rw [HSN.out, ← HB.out]; rfl)
            go_wp2_with fail
            refine ⟨⟨m + 1, true, HML.out, by go_num, rfl, HB3⟩, ?_⟩
            have := HMM.out
            simp [intOf]; omega
          | false =>
            have HB3 := hide (show q = inL ((waysO l).take (m + 1)) t.id by rw [HSN.out, ← HB.out]; rfl)
            go_wp2_with fail
            refine HIN.out.mono ?_
            rintro _ _ ⟨rfl, rfl⟩
            go_wp2_with fail
            refine ⟨⟨m + 1, q, HML.out, by go_num, rfl, HB3⟩, ?_⟩
            have := HMM.out
            simp [intOf]; omega
        · have hb2 := hb.out
          rw [take_len hmt hm, inL_ways] at hb2
          have HB := hide hb2
          have m1 : ¬ (m : Int) < (waysO l).length := by omega
          clear hb hb2 hmt hm
          cases b with
          | false =>
            have HP2 : Hid (PrP l (((nodesO l).take (k + 1)).map Ob.id) (inn.map Prod.snd)) := by
              rw [ids_take HKT.out]
              exact hide (HPR.out.skip (fun h => by rw [h] at HB; cases HB.out))
            go_wp2_with fail
            refine ⟨⟨k + 1, Ao, co, Ad, cd, D, inn, HKL.out, by go_num, rfl, rfl, HRP, HP2, HDN⟩, ?_⟩
            have := HMS.out
            simp [intOf]; omega
          | true =>
            have hin := in_any D t.id _ wr (HRP.out.strs (x := (.slice Ad D.length cd, D)) (by simp)) (by have := HDL.out; omega)
            obtain ⟨q, hq⟩ := bool_of (b := hasS t.id D)
            rw [hq] at hin
            have HIN := hide hin
            have HQ := hide hq
            clear hin hq
            cases q with
            | true =>
              have HP2 : Hid (PrP l (((nodesO l).take (k + 1)).map Ob.id) (inn.map Prod.snd)) := by
                rw [ids_take HKT.out]
                exact hide (HPR.out.skip (fun h => (HDN.out.mem _ h).1 ((hasS_mem _ _).1 HQ.out)))
              go_wp2_with fail
              refine HIN.out.mono ?_
              rintro _ _ ⟨rfl, rfl⟩
              go_wp2_with fail
              refine ⟨⟨k + 1, Ao, co, Ad, cd, D, inn, HKL.out, by go_num, rfl, rfl, HRP, HP2, HDN⟩, ?_⟩
              have := HMS.out
              simp [intOf]; omega
            | false =>
              have HNO := hide (fun r (hr : r ∈ inn.map Prod.snd) (h : t.id ∈ r) => no_hasS HQ.out ((HDN.out.mem _ HB.out.symm).2 ⟨r, hr, h⟩))
              go_wp2_with fail
              refine HIN.out.mono ?_
              rintro _ _ ⟨rfl, rfl⟩
              go_wp2_with fail
              have hbn : Below wr.heap.size wr (wr.alloc (.cells #[.string t.id] 9)) := (Below.refl _ _).alloc (Nat.le_refl _) _
              have hrs := HRP.out.setB (B' := (.slice (some ⟨wr.heap.size, 0, none⟩) 1 1, [t.id])) (grown_none hbn) (.inl rfl) (row_one w2 wr t.id HRP.out.below.size) (fun b hb => .inr (by simp [Value.ownBlock] at hb; omega))
              have HRS := hide hrs
              have HCL := hide (ClI.one HB.out.symm)
              clear hbn hrs HIN
              go_loopw [11, 12] (fun vb ag w3 => ∃ (Ap : Option Addr) (cp : Nat) (P : List BA) (a : Bool), vb = .slice Ap P.length cp ∧ ag = .bool a ∧ Hid (RpI w2 (.slice Ao inn.length co) (.slice Ad D.length cd, D) (.slice Ap P.length cp, P) nilR inn w3) ∧ Hid (ClI l t.id P) ∧ Hid (a = false → closedP l P)) (fun vb ag _ => 2 * (100000 - lenOf vb) + agOf ag)
              case atStart => exact ⟨_, _, [t.id], true, rfl, rfl, HRS, HCL, fun h => nomatch h⟩
              case round =>
                obtain ⟨Ap, cp, P, a, rfl, rfl, hrp, hcl, hcls⟩ := hrel
                have hpl := hcl.out.len
                have hpl2 : P.length ≤ 100000 := by omega
                have HRP3 := hide hrp.out
                have HCL3 := hide hcl.out
                clear hrp hcl HRS HCL HRP hpl
                cases a with
                | true =>
                  clear hcls
                  go_wp2_with fail
                  go_loopw [11, 12, 13] (fun vb ag i w4 => ∃ (Ap1 : Option Addr) (cp1 : Nat) (P1 : List BA) (a1 : Bool) (m : Nat), vb = .slice Ap1 P1.length cp1 ∧ ag = .bool a1 ∧ i = .int .i64 m ∧ m ≤ (waysO l).length ∧ Hid (RpI w2 (.slice Ao inn.length co) (.slice Ad D.length cd, D) (.slice Ap1 P1.length cp1, P1) nilR inn w4) ∧ Hid (ClI l t.id P1) ∧ Hid (a1 = false → P1 = P ∧ ∀ o ∈ (waysO l).take m, closedO P o) ∧ Hid (a1 = true → P.length < P1.length)) (fun _ _ i _ => (waysO l).length - (intOf i).toNat)
                  case atStart => exact ⟨Ap, cp, P, false, 0, rfl, rfl, rfl, Nat.zero_le _, HRP3, HCL3, fun _ => ⟨rfl, fun _ h => nomatch h⟩, fun h => nomatch h⟩
                  case round =>
                    clear HRP3 HCL3
                    obtain ⟨Ap1, cp1, P1, a1, m, rfl, rfl, rfl, hm, hrp1, hcl1, hf1, ht1⟩ := hrel
                    have hpl1 := hcl1.out.len
                    have hpl12 : P1.length ≤ 100000 := by omega
                    have HRP1 := hide hrp1.out
                    have HCL1 := hide hcl1.out
                    have HF1 := hide hf1.out
                    have HT1 := hide ht1.out
                    clear hrp1 hcl1 hf1 ht1 hpl1
                    by_cases hmt : m < (waysO l).length
                    · obtain ⟨g2, o2, rfl, hg2, hp2⟩ := HA2.out.resolve_left (by intro e; rw [e] at hmt; simp at hmt)
                      have hmy := List.getElem?_eq_getElem hmt
                      generalize (waysO l)[m] = y at *
                      obtain ⟨rvy, tvy, hoy⟩ := hp2 m y hmy
                      obtain ⟨Ar, cr, hrv, _, hAr⟩ := id hoy.refs
                      subst hrv
                      have HREF := hide hAr
                      have HOY := hide (fun W (hb : Below w2.heap.size w2 W) => (hoy.below hg2 hb).c4)
                      have hyw := List.mem_of_getElem? hmy
                      have hok := HOK.out y (HL2.out y hyw).2.1
                      have hyl := hok.2.1
                      have HYW := hide hyw
                      have m0 : (0 : Int) ≤ m := by omega
                      have m1 : (m : Int) < (waysO l).length := by omega
                      have HML := hide hmt
                      have HMY := hide hmy
                      have HMM := hide (show (waysO l).length - (m + 1) < (waysO l).length - m from by omega)
                      have d4 := HOY.out _ HRP1.out.below
                      have HIN1 := hide (fun (s : BA) => in_any P1 s _ _ (HRP1.out.strs (x := (.slice Ap1 P1.length cp1, P1)) (by simp)) hpl12)
                      clear hmt hmy hoy hok hp2 hAr hyw
                      go_wp2_with fail
                      go_loop [14, 15] (fun so i => ∃ (b : Bool) (x : Nat), x ≤ y.refs.length ∧ so = .bool b ∧ i = .int .i64 x ∧ Hid (b = anyH P1 (y.refs.take x))) (fun _ i => y.refs.length - (intOf i).toNat)
                      case atStart => exact ⟨false, 0, Nat.zero_le _, rfl, rfl, hide rfl⟩
                      case round =>
                        obtain ⟨b, x, hx, rfl, rfl, hb⟩ := hrel
                        have HB5 := hide hb.out
                        clear hb
                        by_cases hxt : x < y.refs.length
                        · obtain ⟨gr, o3, rfl, hgr, hst⟩ := HREF.out.resolve_left (by intro e; rw [e] at hxt; simp at hxt)
                          have hxs := List.getElem?_eq_getElem hxt
                          generalize y.refs[x] = s at *
                          have f0 := (HRP1.out.below.cell (p := ⟨gr, _, none⟩) hgr).trans (hst x s hxs)
                          obtain ⟨q, hq⟩ := bool_of (b := hasS s P1)
                          have hin := HIN1.out s
                          rw [hq] at hin
                          have HIN := hide hin
                          have HSN := hide (anyH_snoc P1 hxs)
                          rw [hq] at HSN
                          have x0 : (0 : Int) ≤ x := by omega
                          have x1 : (x : Int) < y.refs.length := by omega
                          have HXL := hide hxt
                          have HXM := hide (show y.refs.length - (x + 1) < y.refs.length - x from by omega)
                          clear hxt hxs hq hin hst
                          cases b with
                          | true =>
                            have HB3 := hide (show true = anyH P1 (y.refs.take (x + 1)) by rw [HSN.out, ← HB5.out]; rfl)
                            go_wp2_with fail
                            refine ⟨⟨true, x + 1, HXL.out, rfl, by go_num, HB3⟩, ?_⟩
                            have := HXM.out
                            simp [intOf]; omega
                          | false =>
                            have HB3 := hide (show q = anyH P1 (y.refs.take (x + 1)) by rw [HSN.out, ← HB5.out]; rfl)
                            go_wp2_with fail
                            refine HIN.out.mono ?_
                            rintro _ _ ⟨rfl, rfl⟩
                            go_wp2_with fail
                            refine ⟨⟨q, x + 1, HXL.out, rfl, by go_num, HB3⟩, ?_⟩
                            have := HXM.out
                            simp [intOf]; omega
                        · have x1 : ¬ (x : Int) < y.refs.length := by omega
                          have hb2 := HB5.out
                          rw [take_len hxt hx] at hb2
                          have HBR := hide hb2
                          clear HB5 hb2 hxt hx
                          have HF6 : Hid (a1 = false → P1 = P ∧ (∀ o ∈ (waysO l).take m, closedO P o) ∧ (∀ s ∈ y.refs.take 0, s ∈ P) ∧ (b = false → closedO P y)) := fun h => by
                            obtain ⟨h1, h2⟩ := HF1.out h
                            refine ⟨h1, h2, (fun _ h => nomatch h), fun hbf r hr hrP => ?_⟩
                            exfalso
                            have := (anyH_iff P1 y.refs).2 ⟨r, hr, by rw [h1]; exact hrP⟩
                            rw [← HBR.out, hbf] at this
                            cases this
                          have HS6 : Hid (b = true → ∃ s ∈ y.refs, s ∈ P1) := fun h => (anyH_iff P1 y.refs).1 (by rw [← HBR.out, h])
                          go_wp2_with fail
                          clear x1
                          go_loopw [11, 12, 16] (fun vb ag i w6 => ∃ (Ap2 : Option Addr) (cp2 : Nat) (P2 : List BA) (a2 : Bool) (x : Nat), vb = .slice Ap2 P2.length cp2 ∧ ag = .bool a2 ∧ i = .int .i64 x ∧ x ≤ y.refs.length ∧ Hid (RpI w2 (.slice Ao inn.length co) (.slice Ad D.length cd, D) (.slice Ap2 P2.length cp2, P2) nilR inn w6) ∧ Hid (ClI l t.id P2) ∧ Hid (a2 = false → P2 = P ∧ (∀ o ∈ (waysO l).take m, closedO P o) ∧ (∀ s ∈ y.refs.take x, s ∈ P) ∧ (b = false → closedO P y)) ∧ Hid (a2 = true → P.length < P2.length) ∧ Hid (b = true → ∃ s ∈ y.refs, s ∈ P2)) (fun _ _ i _ => y.refs.length - (intOf i).toNat)
                          case atStart => exact ⟨Ap1, cp1, P1, a1, 0, rfl, rfl, rfl, Nat.zero_le _, HRP1, HCL1, HF6, HT1, HS6⟩
                          case round =>
                            clear HF6 HS6 HBR HIN1 d4 HRP1 HCL1 HF1 HT1
                            obtain ⟨Ap2, cp2, P2, a2, x2, rfl, rfl, rfl, hx2, hrp2, hcl2, hf2, ht2, hs2⟩ := hrel
                            have hpl2 := hcl2.out.len
                            have hpl22 : P2.length ≤ 100000 := by omega
                            have HRP2 := hide hrp2.out
                            have HCL2 := hide hcl2.out
                            have HF2 := hide hf2.out
                            have HT2 := hide ht2.out
                            have HS2 := hide hs2.out
                            have d4 := HOY.out _ HRP2.out.below
                            clear hrp2 hcl2 hf2 ht2 hs2 hpl2
                            cases b with
                            | false =>
                              have HF7 : Hid (a2 = false → P2 = P ∧ ∀ o ∈ (waysO l).take (m + 1), closedO P o) := fun h => by
                                obtain ⟨h1, h2, _, h4⟩ := HF2.out h
                                refine ⟨h1, fun o ho => ?_⟩
                                rw [List.take_add_one, HMY.out] at ho
                                rcases List.mem_append.1 ho with ho | ho
                                · exact h2 o ho
                                · simp at ho; subst ho; exact h4 rfl
                              clear HF2 HS2
                              by_cases hx3 : x2 < y.refs.length
                              · have x1 : (x2 : Int) < y.refs.length := by omega
                                clear hx3 hx2
                                go_wp2_with fail
                                refine ⟨⟨Ap2, cp2, P2, a2, m + 1, rfl, rfl, by go_num, HML.out, HRP2, HCL2, HF7, HT2⟩, ?_⟩
                                have := HMM.out
                                simp [intOf]; omega
                              · have x1 : ¬ (x2 : Int) < y.refs.length := by omega
                                clear hx3 hx2
                                go_wp2_with fail
                                refine ⟨⟨Ap2, cp2, P2, a2, m + 1, rfl, rfl, by go_num, HML.out, HRP2, HCL2, HF7, HT2⟩, ?_⟩
                                have := HMM.out
                                simp [intOf]; omega
                            | true =>
                              by_cases hx3 : x2 < y.refs.length
                              · obtain ⟨gr, o3, rfl, hgr, hst⟩ := HREF.out.resolve_left (by intro e; rw [e] at hx3; simp at hx3)
                                have hxs := List.getElem?_eq_getElem hx3
                                generalize y.refs[x2] = s at *
                                have f0 := (HRP2.out.below.cell (p := ⟨gr, _, none⟩) hgr).trans (hst x2 s hxs)
                                obtain ⟨q, hq⟩ := bool_of (b := hasS s P2)
                                have hin := in_any P2 s _ _ (HRP2.out.strs (x := (.slice Ap2 P2.length cp2, P2)) (by simp)) hpl22
                                rw [hq] at hin
                                have HIN := hide hin
                                have HXS := hide hxs
                                have x0 : (0 : Int) ≤ x2 := by omega
                                have x1 : (x2 : Int) < y.refs.length := by omega
                                have HXL := hide hx3
                                have HXM := hide (show y.refs.length - (x2 + 1) < y.refs.length - x2 from by omega)
                                have HQ := hide hq
                                clear hx3 hxs hq hin hst hx2
                                cases q with
                                | true =>
                                  have HF7 : Hid (a2 = false → P2 = P ∧ (∀ o ∈ (waysO l).take m, closedO P o) ∧ (∀ s ∈ y.refs.take (x2 + 1), s ∈ P) ∧ (true = false → closedO P y)) := fun h => by
                                    obtain ⟨h1, h2, h3, _⟩ := HF2.out h
                                    refine ⟨h1, h2, fun r hr => ?_, fun h => nomatch h⟩
                                    rw [List.take_add_one, HXS.out] at hr
                                    rcases List.mem_append.1 hr with hr | hr
                                    · exact h3 r hr
                                    · simp at hr; subst hr; rw [← h1]; exact (hasS_mem _ _).1 HQ.out
                                  go_wp2_with fail
                                  refine HIN.out.mono ?_
                                  rintro _ _ ⟨rfl, rfl⟩
                                  go_wp2_with fail
                                  refine ⟨⟨Ap2, cp2, P2, a2, x2 + 1, rfl, rfl, by go_num, HXL.out, HRP2, HCL2, HF7, HT2, HS2⟩, ?_⟩
                                  have := HXM.out
                                  simp [intOf]; omega
                                | false =>
                                  have hns := no_hasS HQ.out
                                  obtain ⟨s0, hs01, hs02⟩ := HS2.out rfl
                                  have HCL9 := hide (HCL2.out.more HYW.out hs01 hs02 (List.mem_of_getElem? HXS.out) hns)
                                  have HT9 : Hid (P.length < (P2 ++ [s]).length) := hide (by
                                    cases a2 with
                                    | true => have := HT2.out rfl; simp; omega
                                    | false => have := (HF2.out rfl).1; rw [this]; simp)
                                  have HS9 : Hid (∃ r ∈ y.refs, r ∈ P2 ++ [s]) := hide ⟨s0, hs01, List.mem_append_left _ hs02⟩
                                  clear hns hs01 hs02 HF2 HT2 HS2 HQ
                                  go_wp2_with fail
                                  refine HIN.out.mono ?_
                                  rintro _ _ ⟨rfl, rfl⟩
                                  clear HIN
                                  go_wp2_with (at_builtin; go_must (refine wpList_append_lies _ rfl (.tmp 113) (.tmp 122) 39 rfl w2.heap.size 9 i0 (.string ⟨#[]⟩) 1 16 Try.underlying39 HI.out HZ0.out HZ1.out HZ2.out rfl (by decide) (.slice Ap2 P2.length cp2) P2.length (P2.map Value.string) rfl ?c0 ⟨wr.heap.size, 0, none⟩ 1 1 [.string s] rfl rfl ?c1 ?c2 (by decide) ?c3 ?c4 ?c5 (wr.heap.size + 1) ?c6 ?_))
                                  case c0 => exact own_below (HRP2.out.row (x := (.slice Ap2 P2.length cp2, P2)) (by simp)) ((Below.refl _ _).alloc (Nat.le_refl _) _)
                                  case c1 =>
                                    intro j u hj
                                    exact new_cells wr [.string s] 9 j u hj
                                  case c2 => intro u hu; simp at hu; subst hu; rfl
                                  case c3 => unfold maxLen; omega
                                  case c4 => omega
                                  case c5 => have := HRP2.out.below.size; simp; omega
                                  case c6 => simp
                                  intro g9 cap w9 hown9 hgrow9 hat9 _
                                  have hrp9 := (HRP2.out.lift ((Below.refl _ _).alloc (Nat.le_refl _) (.cells #[.string s] 9))).setB (B' := (.slice (some ⟨g9, 0, none⟩) (P2 ++ [s]).length cap, P2 ++ [s])) hgrow9 (.inr rfl) (by simpa using hown9) (fun b hb => by
                                    have e : g9 = b := by simpa [Value.ownBlock] using hb
                                    subst e
                                    rcases hat9 with h | h
                                    · exact .inl h
                                    · exact .inr (by simp; omega))
                                  have HRP9 := hide hrp9
                                  have HLN := hide (show Value.slice (some ⟨g9, 0, none⟩) (P2.length + 1) cap = .slice (some ⟨g9, 0, none⟩) (P2 ++ [s]).length cap by simp)
                                  clear hown9 hgrow9 hat9 hrp9 HRP2 d4 f0
                                  go_wp2_with fail
                                  refine ⟨⟨some ⟨g9, 0, none⟩, cap, P2 ++ [s], true, x2 + 1, HLN.out, rfl, by go_num, HXL.out, HRP9, HCL9, hide (fun h => nomatch h), hide (fun _ => HT9.out), hide (fun _ => HS9.out)⟩, ?_⟩
                                  have := HXM.out
                                  simp [intOf]; omega
                              · have x1 : ¬ (x2 : Int) < y.refs.length := by omega
                                have HF7 : Hid (a2 = false → P2 = P ∧ ∀ o ∈ (waysO l).take (m + 1), closedO P o) := fun h => by
                                  obtain ⟨h1, h2, h3, _⟩ := HF2.out h
                                  rw [take_len hx3 hx2] at h3
                                  refine ⟨h1, fun o ho => ?_⟩
                                  rw [List.take_add_one, HMY.out] at ho
                                  rcases List.mem_append.1 ho with ho | ho
                                  · exact h2 o ho
                                  · simp at ho; subst ho; exact fun r _ _ s hs => h3 s hs
                                clear HF2 HS2 hx3 hx2
                                go_wp2_with fail
                                refine ⟨⟨Ap2, cp2, P2, a2, m + 1, rfl, rfl, by go_num, HML.out, HRP2, HCL2, HF7, HT2⟩, ?_⟩
                                have := HMM.out
                                simp [intOf]; omega
                    · have m1 : ¬ (m : Int) < (waysO l).length := by omega
                      have HC1 : Hid (a1 = false → closedP l P1) := fun h => by
                        obtain ⟨h1, h2⟩ := HF1.out h
                        rw [take_len hmt hm] at h2
                        rw [h1]
                        exact h2
                      have HT3 := hide HT1.out
                      clear hmt hm
                      go_wp2_with fail
                      refine ⟨⟨Ap1, cp1, P1, a1, rfl, rfl, HRP1, HCL1, HC1⟩, ?_⟩
                      cases a1 with
                      | true =>
                        have := HT3.out rfl
                        simp [lenOf, agOf]; omega
                      | false =>
                        have := (HF1.out rfl).1
                        subst this
                        simp [lenOf, agOf]
                | false =>
                  have HCC := hide (hcls.out rfl)
                  clear hcls
                  go_wp2_with fail
                  go_loopw [17, 18] (fun vc i w7 => ∃ (Ac : Option Addr) (cc : Nat) (Q : List BA) (m : Nat), vc = .slice Ac Q.length cc ∧ i = .int .i64 m ∧ m ≤ (nodesO l).length ∧ Hid (Q = ordL (((nodesO l).take m).map Ob.id) P) ∧ Hid (RpI w2 (.slice Ao inn.length co) (.slice Ad D.length cd, D) (.slice Ap P.length cp, P) (.slice Ac Q.length cc, Q) inn w7)) (fun _ i _ => (nodesO l).length - (intOf i).toNat)
                  case atStart => exact ⟨none, 0, [], 0, rfl, rfl, Nat.zero_le _, hide rfl, HRP3⟩
                  case round =>
                    clear HRP3
                    obtain ⟨Ac, cc, Q, m, rfl, rfl, hm, hQ, hrp7⟩ := hrel
                    have hql : Q.length ≤ m := by
                      rw [hQ.out]
                      refine Nat.le_trans (ordL_len _ _) ?_
                      rw [List.length_map]
                      exact List.length_take_le ..
                    have HRP7 := hide hrp7.out
                    have HQ7 := hide hQ.out
                    clear hrp7 hQ
                    by_cases hmt : m < (nodesO l).length
                    · have hmy := List.getElem?_eq_getElem hmt
                      generalize (nodesO l)[m] = y at *
                      have f0 := HC0.out _ HRP7.out.below m y hmy
                      have hin := in_any P y.id _ _ (HRP7.out.strs (x := (.slice Ap P.length cp, P)) (by simp)) hpl2
                      obtain ⟨q, hq⟩ := bool_of (b := hasS y.id P)
                      rw [hq] at hin
                      have hot := ord_take P hmy
                      rw [hq] at hot
                      have HIN := hide hin
                      have HOT := hide hot
                      have m0 : (0 : Int) ≤ m := by omega
                      have m1 : (m : Int) < (nodesO l).length := by omega
                      have HML := hide hmt
                      have HMM := hide (show (nodesO l).length - (m + 1) < (nodesO l).length - m from by omega)
                      have hml : m ≤ 100000 := by omega
                      clear hmt hmy hin hq hot hm
                      cases q with
                      | false =>
                        have HQ8 : Hid (Q = ordL (((nodesO l).take (m + 1)).map Ob.id) P) := by
                          rw [HOT.out, HQ7.out]; exact hide (by simp)
                        go_wp2_with fail
                        refine HIN.out.mono ?_
                        rintro _ _ ⟨rfl, rfl⟩
                        go_wp2_with fail
                        refine ⟨⟨Ac, cc, Q, m + 1, rfl, by go_num, HML.out, HQ8, HRP7⟩, ?_⟩
                        have := HMM.out
                        simp [intOf]; omega
                      | true =>
                        have HQ8 : Hid (Q ++ [y.id] = ordL (((nodesO l).take (m + 1)).map Ob.id) P) := by
                          rw [HOT.out, HQ7.out]; exact hide (by simp)
                        go_wp2_with fail
                        refine HIN.out.mono ?_
                        rintro _ _ ⟨rfl, rfl⟩
                        clear HIN
                        go_wp2_with (at_builtin; go_must (refine wpList_append_lies _ rfl (.tmp 137) (.tmp 143) 39 rfl w2.heap.size 9 i0 (.string ⟨#[]⟩) 1 16 Try.underlying39 HI.out HZ0.out HZ1.out HZ2.out rfl (by decide) (.slice Ac Q.length cc) Q.length (Q.map Value.string) rfl ?c0 ⟨wr.heap.size, 0, none⟩ 1 1 [.string y.id] rfl rfl ?c1 ?c2 (by decide) ?c3 ?c4 ?c5 (wr.heap.size + 1) ?c6 ?_))
                        case c0 => exact own_below (HRP7.out.row (x := (.slice Ac Q.length cc, Q)) (by simp)) ((Below.refl _ _).alloc (Nat.le_refl _) _)
                        case c1 =>
                          intro j u hj
                          exact new_cells wr [.string y.id] 9 j u hj
                        case c2 => intro u hu; simp at hu; subst hu; rfl
                        case c3 => unfold maxLen; omega
                        case c4 => omega
                        case c5 => have := HRP7.out.below.size; simp; omega
                        case c6 => simp
                        intro g9 cap w9 hown9 hgrow9 hat9 _
                        have hrp9 := (HRP7.out.lift ((Below.refl _ _).alloc (Nat.le_refl _) (.cells #[.string y.id] 9))).setC (C' := (.slice (some ⟨g9, 0, none⟩) (Q ++ [y.id]).length cap, Q ++ [y.id])) hgrow9 (.inr rfl) (by simpa using hown9) (fun b hb => by
                          have e : g9 = b := by simpa [Value.ownBlock] using hb
                          subst e
                          rcases hat9 with h | h
                          · exact .inl h
                          · exact .inr (by simp; omega))
                        have HRP9 := hide hrp9
                        have HLN := hide (show Value.slice (some ⟨g9, 0, none⟩) (Q.length + 1) cap = .slice (some ⟨g9, 0, none⟩) (Q ++ [y.id]).length cap by simp)
                        clear hown9 hgrow9 hat9 hrp9 HRP7 f0
                        go_wp2_with fail
                        refine ⟨⟨some ⟨g9, 0, none⟩, cap, Q ++ [y.id], m + 1, HLN.out, by go_num, HML.out, HQ8, HRP9⟩, ?_⟩
                        have := HMM.out
                        simp [intOf]; omega
                    · have m1 : ¬ (m : Int) < (nodesO l).length := by omega
                      have hq7 := HQ7.out
                      rw [take_len hmt hm] at hq7
                      have HQ8 := hide (show Q = ordL (idsN l) P from hq7)
                      have hrowP := HRP7.out.row (x := (.slice Ap P.length cp, P)) (by simp)
                      obtain ⟨gp, rfl⟩ : ∃ gp, Ap = some ⟨gp, 0, none⟩ := by
                        rcases hrowP.2 with ⟨_, hn⟩ | ⟨g, cap, cur, hv, _⟩
                        · exact absurd HCL3.out.own (by rw [List.length_eq_zero_iff.1 (show P.length = 0 from hn)]; simp)
                        · cases hv; exact ⟨g, rfl⟩
                      have hpn : 0 < P.length := List.length_pos_of_mem HCL3.out.own
                      have HPC := hide (hrowP.cells (g := gp) rfl)
                      have hll := HPR.out.len
                      have hil : inn.length ≤ 100000 := by
                        rw [List.length_map, List.length_map, List.length_take] at hll
                        omega
                      have hdl2 : D.length ≤ 100000 := by have := HDL.out; omega
                      have hkl := HKL.out
                      have HPR2 : Hid (PrP l (((nodesO l).take (k + 1)).map Ob.id) ((inn ++ [((.slice Ac Q.length cc : Value), Q)]).map Prod.snd)) := by
                        rw [List.map_append, ids_take HKT.out, List.map_cons, List.map_nil]
                        show Hid (PrP l _ (_ ++ [Q]))
                        rw [HQ8.out]
                        exact hide (HPR.out.add (idsN_sorted HM.out) (split_at HKT.out) HB.out.symm HNO.out HCL3.out HCC.out)
                      have HDN2 : Hid (DnI l (D ++ P) ((inn ++ [((.slice Ac Q.length cc : Value), Q)]).map Prod.snd)) := by
                        rw [List.map_append, List.map_cons, List.map_nil]
                        show Hid (DnI l _ (_ ++ [Q]))
                        rw [HQ8.out]
                        exact hide (HDN.out.add HPR.out HB.out.symm HNO.out HCL3.out)
                      clear hmt hm hq7 hrowP hll hkl HQ7
                      go_wp2_with (at_builtin; go_must (refine wpList_append_lies _ rfl (.tmp 145) (.tmp 146) 39 rfl w2.heap.size 9 i0 (.string ⟨#[]⟩) 1 16 Try.underlying39 HI.out HZ0.out HZ1.out HZ2.out rfl (by decide) (.slice Ad D.length cd) D.length (D.map Value.string) rfl ?c0 ⟨gp, 0, none⟩ P.length cp (P.map Value.string) rfl (by simp) ?c1 ?c2 hpn ?c3 ?c4 ?c5 (wr.heap.size) ?c6 ?_))
                      case c0 => exact HRP7.out.row (x := (.slice Ad D.length cd, D)) (by simp)
                      case c1 =>
                        intro j a hj
                        have e : (⟨gp, 0, none⟩ : Addr).add j = ⟨gp, j, none⟩ := by simp only [Addr.add, Nat.zero_add]; split <;> simp_all
                        rw [← e]
                        exact HPC.out j (.string a) (by rw [List.getElem?_map, hj]; rfl)
                      case c2 => intro u hu; rfl
                      case c3 => unfold maxLen; omega
                      case c4 => omega
                      case c5 => exact HRP7.out.below.size
                      case c6 => rfl
                      intro g9 cap w9 hown9 hgrow9 hat9 _
                      have hrp9 := HRP7.out.setA (A' := (.slice (some ⟨g9, 0, none⟩) (D ++ P).length cap, D ++ P)) hgrow9 (.inr rfl) (by simpa using hown9) (fun b hb => by
                        have e : g9 = b := by simpa [Value.ownBlock] using hb
                        subst e
                        rcases hat9 with h | h
                        · exact .inl h
                        · exact .inr (by omega))
                      have HRP9 := hide hrp9
                      have HLN := hide (show Value.slice (some ⟨g9, 0, none⟩) (D.length + P.length) cap = .slice (some ⟨g9, 0, none⟩) (D ++ P).length cap by simp)
                      clear hown9 hgrow9 hat9 hrp9 HRP7 HPC
                      go_wp2_with (at_builtin; go_must (refine wpList_append_lies _ rfl (.tmp 148) (.tmp 150) 34 rfl w2.heap.size 39 j0 (.slice none 0 0) 1 24 Try.underlying34 HJ.out HY0.out HY1.out HY2.out rfl (by decide) (.slice Ao inn.length co) inn.length (inn.map Prod.fst) rfl ?c0 ⟨w9.heap.size, 0, none⟩ 1 1 [.slice Ac Q.length cc] rfl rfl ?c1 ?c2 (by decide) ?c3 ?c4 ?c5 (w9.heap.size + 1) ?c6 ?_))
                      case c0 => exact own_below HRP9.out.out ((Below.refl _ _).alloc (Nat.le_refl _) _)
                      case c1 =>
                        intro j u hj
                        exact new_cells w9 [.slice Ac Q.length cc] 39 j u hj
                      case c2 => intro u hu; simp at hu; subst hu; rfl
                      case c3 => unfold maxLen; omega
                      case c4 => omega
                      case c5 => have := HRP9.out.below.size; simp; omega
                      case c6 => simp
                      intro g10 cap10 w10 hown10 hgrow10 hat10 _
                      have hrp10 := (HRP9.out.lift ((Below.refl _ _).alloc (Nat.le_refl _) (.cells #[.slice Ac Q.length cc] 39))).push hgrow10 (vo' := .slice (some ⟨g10, 0, none⟩) (inn.length + 1) cap10) (by simpa using hown10)
                      have HLN2 := hide (show Value.slice (some ⟨g10, 0, none⟩) (inn.length + 1) cap10 = .slice (some ⟨g10, 0, none⟩) (inn ++ [((.slice Ac Q.length cc, Q) : Value × List BA)]).length cap10 by simp)
                      rw [HLN2.out] at hrp10
                      have HRP10 := hide hrp10
                      clear hown10 hgrow10 hat10 hrp10 HRP9
                      go_wp2_with fail
                      refine ⟨⟨k + 1, some ⟨g10, 0, none⟩, cap10, some ⟨g9, 0, none⟩, cap, D ++ P, inn ++ [((.slice Ac Q.length cc : Value), Q)], HKL.out, by go_num, HLN2.out, HLN.out, HRP10, HPR2, HDN2⟩, ?_⟩
                      have := HMS.out
                      simp [intOf]; omega
    · obtain rfl : k = L1.length := by omega
      have hp2 := hpr.out
      rw [List.take_length] at hp2
      have HE : Hid (inn.map Prod.snd = PP) := by
        cases hmb : mapB l with
        | true =>
          have hnd := HND.out hmb
          subst hnd
          exact hide (hp2.unique (HP.out hmb))
        | false =>
          have hn : L1 = [] := by
            cases L1 with
            | nil => rfl
            | cons x L =>
              have := (HL1.out x (List.mem_cons_self ..)).1
              rw [hmb] at this; cases this
          subst hn
          have := forget_len hp2
          rw [HN.out hmb]
          exact hide (List.length_eq_zero_iff.1 (by simpa using this))
      have HRP := hide hrp.out
      have k1 : ¬ (L1.length : Int) < L1.length := by omega
      clear hpr hp2 hdn hlt hrp
      go_wp2_with fail
      go_ret
      exact ⟨_, rfl, by rw [← HE.out]; exact HRP.out.grs, bto HB2.out HRP.out.below⟩
end Go.Proofs.Ytpiocaomlifljaa
