/-
  Worlds that have grown but for one map; sets of strings as maps to true.
-/
import Derived.Test.YtpiocaomlifljaaNetRc
import Derived.Test.YtpiocaomlifljaaNetSa
import Derived.Test.YtpiocaomlifljaaPlainV
namespace Go.Proofs.Ytpiocaomlifljaa
open Go.RowKit Go.Proofs.PlLex Go.Proofs.PlNet Go.Proofs.PlMap

/-- A world that has grown from w6, but for the map in block bo, which holds M. -/
structure PuI (w6 : World) (bo : Nat) (M : List (BA × Value)) (W : World) : Prop where
  gr : w6.grownBy W (some bo)
  om : MapS W bo M
  was : ∃ M0, MapS w6 bo M0
theorem MapL.block {P : Program} {k : TypeId} {K : Type} [DecidableEq K] {B : KeyBy P k K} {w : World} {b : Nat} {l : List (K × Value)} (h : MapL B w b l) : ∃ o : Obj, w.heap[b]? = some o ∧ o.isCells = false := by
  obtain ⟨⟨D, ⟨es, clock, h0, _⟩, _⟩, _⟩ := h
  exact ⟨_, h0, rfl⟩
theorem PuI.cell {w6 W : World} {bo : Nat} {M : List (BA × Value)} (h : PuI w6 bo M W) {a : Addr} {v : Value} (hc : w6.cell? a = some v) : W.cell? a = some v :=
  cell_kept hc h.gr (fun r hr => by cases hr; obtain ⟨M0, h0⟩ := h.was; exact MapL.block h0)
theorem PuI.lift {w6 W W' : World} {bo : Nat} {M : List (BA × Value)} (h : PuI w6 bo M W) (hb : Below W.heap.size W W') : PuI w6 bo M W' :=
  ⟨h.gr.trans ((grown_none hb).but _), h.om.kept (grown_none hb) (by simp), h.was⟩
theorem PuI.put {w6 W W' : World} {bo : Nat} {M M' : List (BA × Value)} (h : PuI w6 bo M W) (hm : MapS W' bo M') (ht : W.mapTurned W' bo) : PuI w6 bo M' W' :=
  ⟨h.gr.trans ht.grown, hm, h.was⟩
theorem PuI.lt {w6 W : World} {bo : Nat} {M : List (BA × Value)} (h : PuI w6 bo M W) : bo < w6.heap.size := by
  obtain ⟨M0, h0⟩ := h.was
  exact h0.lt
theorem PuI.other {w6 W W' : World} {bo b : Nat} {M : List (BA × Value)} (h : PuI w6 bo M W) (hb : w6.heap.size ≤ b) (ht : W.mapTurned W' b) : PuI w6 bo M W' :=
  ⟨h.gr.andThen ht.grown (fun j hj => by cases hj; exact .inl hb), h.om.kept ht.grown (fun e => by cases e; have := h.lt; omega), h.was⟩
/-- A set of strings as a map to true. -/
def trueL (ks : List BA) : List (BA × Value) := ks.map (fun x => (x, .bool true))
def addK (ks : List BA) (x : BA) : List BA := if hasS x ks = true then ks else ks ++ [x]
theorem getL_true (ks : List BA) (x : BA) : getL (trueL ks) x = if hasS x ks = true then some (.bool true) else none := by
  induction ks with
  | nil => rfl
  | cons y ks ih =>
    unfold getL trueL at ih ⊢
    rw [List.map_cons, List.find?_cons]
    rw [hasS_cons]
    by_cases e : y = x
    · simp [e]
    · have e2 := (neS e).1
      simp only [e, decide_false, e2, Bool.false_or]
      exact ih
theorem putL_true (ks : List BA) (x : BA) : putL (trueL ks) x (.bool true) = trueL (addK ks x) := by
  unfold putL addK
  rw [getL_true]
  by_cases e : hasS x ks = true
  · rw [if_pos e, if_pos e]
    simp only [Option.isSome_some, if_true]
    unfold trueL
    rw [List.map_map]
    apply List.map_congr_left
    intro y _
    simp only [Function.comp]
    split
    · rename_i h; rw [h]
    · rfl
  · rw [if_neg e, if_neg e]
    unfold trueL
    simp
theorem addK_nodup {ks : List BA} {x : BA} (h : ks.Nodup) : (addK ks x).Nodup := by
  unfold addK
  split
  · exact h
  · rename_i e
    rw [List.nodup_append]
    refine ⟨h, by simp, fun a ha b hb => ?_⟩
    simp only [List.mem_singleton] at hb
    subst hb
    exact fun e2 => e ((hasS_mem _ _).2 (by rw [← e2]; exact ha))
theorem mem_addK {ks : List BA} {x y : BA} : y ∈ addK ks x ↔ y ∈ ks ∨ y = x := by
  unfold addK
  split
  · rename_i e
    exact ⟨.inl, fun h => h.elim id (fun h => by rw [h]; exact (hasS_mem _ _).1 e)⟩
  · simp
theorem addK_len_new {ks : List BA} {x : BA} (h : hasS x ks = false) : (addK ks x).length = ks.length + 1 := by
  unfold addK; rw [if_neg (by rw [h]; simp)]; simp
theorem addK_len (ks : List BA) (x : BA) : (addK ks x).length ≤ ks.length + 1 := by
  unfold addK; split <;> simp
structure StI (w6 : World) (bo : Nat) (M : List (BA × Value)) (b : Nat) (ks : List BA) (W : World) : Prop where
  pt : PuI w6 bo M W
  st : MapS W b (trueL ks)
  ge : w6.heap.size ≤ b
theorem StI.lift {w6 W W' : World} {bo b : Nat} {M : List (BA × Value)} {ks : List BA} (h : StI w6 bo M b ks W) (hb : Below W.heap.size W W') : StI w6 bo M b ks W' :=
  ⟨h.pt.lift hb, h.st.kept (grown_none hb) (by simp), h.ge⟩
theorem StI.made {w6 W : World} {bo : Nat} {M : List (BA × Value)} (h : PuI w6 bo M W) : StI w6 bo M W.heap.size [] (W.alloc (.map #[] 0)) :=
  ⟨h.lift ((Below.refl _ _).alloc (Nat.le_refl _) _), mapL_made _ W, h.gr.size⟩
theorem StI.look {w6 W : World} {bo b : Nat} {M : List (BA × Value)} {ks : List BA} (h : StI w6 bo M b ks W) (s : BA) (hs : s.size ≤ 100000) :
    (Instr.lookup 51 (.map (some b)) (.string s) false).run Try.prog W = .ok (.bool (hasS s ks)) W := by
  have hok : s.size ≤ maxLen := Nat.le_trans hs (by unfold maxLen; omega)
  have hlook := h.st.look Try.underlying51 zero_bool (x := s) hok
  have e1 : (getL (trueL ks) s).getD (.bool false) = .bool (hasS s ks) := by
    rw [getL_true]
    cases e : hasS s ks <;> rfl
  rw [e1] at hlook
  exact hlook
theorem StI.add {w6 W : World} {bo b : Nat} {M : List (BA × Value)} {ks : List BA} (h : StI w6 bo M b ks W) (s : BA) (hs : s.size ≤ 100000) (hl : ks.length ≤ 1000000000) :
    ∃ W1, (Instr.mapUpdate 51 (.map (some b)) (.string s) (.bool true)).run Try.prog W = .ok () W1 ∧ StI w6 bo M b (addK ks s) W1 := by
  have hok : s.size ≤ maxLen := Nat.le_trans hs (by unfold maxLen; omega)
  obtain ⟨W1, hst, hml, htu⟩ := h.st.store Try.underlying51 (by unfold trueL maxLen; rw [List.length_map]; omega) (x := s) hok (.bool true)
  rw [putL_true] at hml
  exact ⟨W1, hst, h.pt.other h.ge htu, hml, h.ge⟩
theorem StI.len {w6 W : World} {bo b : Nat} {M : List (BA × Value)} {ks : List BA} (h : StI w6 bo M b ks W) (ty : TypeId) : (Builtin.len_ #[51] ty #[.map (some b)]).run Try.prog W = .ok (.int .i64 ks.length) W := by
  have := h.st.len Try.underlying51 ty
  unfold trueL at this
  rwa [List.length_map] at this
/-- The map from nodes to the numbers of their parts, so far. -/
structure OfR (f : BA → Int) (done : List BA) (M : List (BA × Value)) : Prop where
  get : ∀ x, getL M x = if hasS x done = true then some (.int .i64 (f x)) else none
  len : M.length ≤ done.length
theorem OfR.nil (f : BA → Int) : OfR f [] [] := ⟨fun _ => rfl, Nat.le_refl _⟩
theorem OfR.put {f : BA → Int} {done : List BA} {M : List (BA × Value)} (h : OfR f done M) {x : BA} {v : Int} (hv : v = f x) : OfR f (done ++ [x]) (putL M x (.int .i64 v)) := by
  refine ⟨fun y => ?_, ?_⟩
  · rw [getL_put, h.get]
    by_cases e : y = x
    · subst e
      rw [if_pos rfl, if_pos ((hasS_mem _ _).2 (by simp)), hv]
    · rw [if_neg e]
      have : hasS y (done ++ [x]) = hasS y done := by
        rw [Bool.eq_iff_iff, hasS_mem, hasS_mem]
        simp [e]
      rw [this]
  · rw [putL_len, List.length_append]
    have := h.len
    simp only [List.length_cons, List.length_nil]
    split <;> omega
theorem zero_intP (w : World) : (zeroValue 3).run Try.prog w = .ok (.int .i64 0) w := by kernel_rfl
theorem PuI.look {w6 W : World} {bo : Nat} {M : List (BA × Value)} {f : BA → Int} {done : List BA} (h : PuI w6 bo M W) (hr : OfR f done M) (s : BA) (hs : s.size ≤ 100000) :
    (Instr.lookup 50 (.map (some bo)) (.string s) false).run Try.prog W = .ok (.int .i64 (if hasS s done = true then f s else 0)) W := by
  have hok : s.size ≤ maxLen := Nat.le_trans hs (by unfold maxLen; omega)
  have hlook := h.om.look Try.underlying50 zero_intP (x := s) hok
  have e1 : (getL M s).getD (.int .i64 0) = .int .i64 (if hasS s done = true then f s else 0) := by
    rw [hr.get]
    split <;> rfl
  rw [e1] at hlook
  exact hlook
theorem PuI.store {w6 W : World} {bo : Nat} {M : List (BA × Value)} {f : BA → Int} {done : List BA} (h : PuI w6 bo M W) (hr : OfR f done M) (s : BA) (hs : s.size ≤ 100000) (hl : done.length ≤ 1000000000) {v : Int} (hv : v = f s) :
    ∃ W1 M1, (Instr.mapUpdate 50 (.map (some bo)) (.string s) (.int .i64 v)).run Try.prog W = .ok () W1 ∧ PuI w6 bo M1 W1 ∧ OfR f (done ++ [s]) M1 := by
  have hok : s.size ≤ maxLen := Nat.le_trans hs (by unfold maxLen; omega)
  obtain ⟨W1, hst, hml, htu⟩ := h.om.store Try.underlying50 (by have := hr.len; unfold maxLen; omega) (x := s) hok (.int .i64 v)
  exact ⟨W1, _, hst, h.put hml htu, hr.put hv⟩
def Pts (w6 : World) (bo : Nat) (M : List (BA × Value)) : Type := {W : World // PuI w6 bo M W}
def Pts.w {w6 : World} {bo : Nat} {M : List (BA × Value)} (u : Pts w6 bo M) : World := u.1
def Sts (w6 : World) (bo : Nat) (M : List (BA × Value)) (b : Nat) (ks : List BA) : Type := {W : World // StI w6 bo M b ks W}
def Sts.w {w6 : World} {bo : Nat} {M : List (BA × Value)} {b : Nat} {ks : List BA} (u : Sts w6 bo M b ks) : World := u.1
/-- The number of the part of a node, from 1. -/
def posP (P : List (List BA)) (x : BA) : Int := ((P.findIdx (fun r => hasS x r) : Nat) : Int) + 1
theorem posP_of {P : List (List BA)} (h : P.flatten.Nodup) {i : Nat} {r : List BA} (hr : P[i]? = some r) {x : BA} (hx : x ∈ r) : posP P x = (i : Int) + 1 := by
  unfold posP
  congr 1
  obtain ⟨hi, hri⟩ := List.getElem?_eq_some_iff.1 hr
  rw [List.Nodup, List.pairwise_flatten] at h
  have hn := List.pairwise_iff_getElem.1 h.2
  have : P.findIdx (fun r => hasS x r) = i := by
    rw [List.findIdx_eq hi]
    refine ⟨by rw [hri]; exact (hasS_mem _ _).2 hx, fun j hj => ?_⟩
    rw [← Bool.not_eq_true, hasS_mem]
    intro hx2
    exact hn j i (by omega) hi hj x hx2 x (by rw [hri]; exact hx) rfl
  omega
theorem flat_next {P : List (List BA)} {i : Nat} {r : List BA} (hr : P[i]? = some r) : (P.take (i + 1)).flatten = (P.take i).flatten ++ r := by
  rw [List.take_add_one, hr]
  simp
theorem flat_split {P : List (List BA)} {i : Nat} {r : List BA} (hr : P[i]? = some r) : P.flatten = (P.take i).flatten ++ (r ++ (P.drop (i + 1)).flatten) := by
  obtain ⟨hi, hri⟩ := List.getElem?_eq_some_iff.1 hr
  conv => lhs; rw [← List.take_append_drop i P, List.flatten_append, List.drop_eq_getElem_cons hi, List.flatten_cons, hri]
theorem fresh_at {P : List (List BA)} (h : P.flatten.Nodup) {i k : Nat} {r : List BA} {x : BA} (hr : P[i]? = some r) (hx : r[k]? = some x) : x ∉ (P.take i).flatten ++ r.take k := by
  rw [flat_split hr] at h
  obtain ⟨hk, hxk⟩ := List.getElem?_eq_some_iff.1 hx
  have e : r = r.take k ++ (x :: r.drop (k + 1)) := by
    rw [← hxk, ← List.drop_eq_getElem_cons hk, List.take_append_drop]
  rw [e, List.append_assoc, ← List.append_assoc, List.nodup_append] at h
  intro hm
  exact h.2.2 x hm x (by simp) rfl
end Go.Proofs.Ytpiocaomlifljaa
