/-
  Objects and maps as plain data, and when they are valid (layers 11 and 12). No program in sight.
-/
import Derived.Test.YtoodmhlefaepaaaGreatPlain
import GoSem.Op.String
import GoSem.ClaimData
import Derived.Maps.Own
import Derived.Maps.OwnSet
import Derived.Maps.Range
import Derived.Maps.RangeWalk
import Derived.StringKeys
import Derived.Laws.Strings
namespace Go.Proofs.PlNet
open Go.Proofs.PlLex

/-! Tags. -/
structure Tg where
  k : ByteArray
  v : ByteArray
/-- Keys that are names and increase, values of 1 to 200 bytes. -/
def tagL (last : ByteArray) : List Tg → Bool
  | [] => true
  | t :: l => name t.k.data.toList && !Go.Op.bytesLess t.k.toList last.toList && !(t.k.toList == last.toList) && !t.v.toList.isEmpty && decide (t.v.size ≤ 200) && tagL t.k l
def tagsB (l : List Tg) : Bool := tagL ⟨#[]⟩ l && decide (l.length ≤ 60)

/-! Objects. -/
structure Ob where
  id : ByteArray
  kind : Int
  x : Int
  y : Int
  refs : List ByteArray
  tags : List Tg
def hasS (s : ByteArray) : List ByteArray → Bool
  | [] => false
  | x :: l => x.toList == s.toList || hasS s l
/-- How many references a kind needs. -/
def leastK (k : Int) : Nat := if k = 2 then 2 else if k = 3 then 3 else if k = 4 then 1 else if k = 5 then 3 else 0
/-- Is a reference wrong, behind those that were seen? -/
def wrongB (k : Int) (seen : List ByteArray) (last s : ByteArray) : Bool := k == 2 && s.toList == last.toList || k == 3 && hasS s seen || !name s.data.toList
def refsB (k : Int) : List ByteArray → ByteArray → List ByteArray → Bool
  | _, _, [] => true
  | seen, last, s :: l => !wrongB k seen last s && refsB k (s :: seen) s l
def gridB (x y : Int) : Bool := decide (0 ≤ x ∧ x < 1048576 ∧ 0 ≤ y ∧ y < 1048576)
def headB (o : Ob) : Bool := decide (1 ≤ o.kind ∧ o.kind ≤ 5) && name o.id.data.toList && tagsB o.tags && decide (leastK o.kind ≤ o.refs.length) && decide (o.refs.length ≤ 2000)
def tailB (o : Ob) : Bool := if o.kind = 1 then decide (o.refs.length = 0) && gridB o.x o.y else if o.kind = 5 then decide (o.refs.length = 3) && decide (o.x = 0 ∧ o.y = 0) else decide (o.x = 0 ∧ o.y = 0)
def obB (o : Ob) : Bool := headB o && refsB o.kind [] ⟨#[]⟩ o.refs && tailB o
def mapL (last : ByteArray) : List Ob → Bool
  | [] => true
  | o :: l => obB o && !Go.Op.bytesLess o.id.toList last.toList && !(o.id.toList == last.toList) && mapL o.id l
def mapB (l : List Ob) : Bool := mapL ⟨#[]⟩ l && decide (l.length ≤ 1000000)
/-- Objects of a size that can be read. -/
def okO (o : Ob) : Prop := o.id.size ≤ 100000 ∧ o.refs.length ≤ 100000 ∧ (∀ s ∈ o.refs, s.size ≤ 100000) ∧ o.tags.length ≤ 100000 ∧ ∀ t ∈ o.tags, t.k.size ≤ Go.maxLen ∧ t.v.size ≤ Go.maxLen
end Go.Proofs.PlNet

/-! Maps in memory as lists of pairs (any kind of element: an element reads as the very value). -/
namespace Go.Proofs.PlMap
open Go Go.Maps Go.ChangeMaps

/-- An element reads as itself. -/
def hv (v : Value) : Option (DataW Value × List MemPlace) := some (.held v, [])

/-- How keys of a type stand for things. -/
structure KeyBy (P : Program) (k : TypeId) (K : Type) where
  val : K → Value
  lit : K → Lit
  ok : K → Prop
  keyed : Keyed P k
  key : ∀ x, ok x → keyOf P k (val x) = some (lit x)
  inj : ∀ x y, ok x → ok y → lit x = lit y → x = y

section
variable {P : Program} {k : TypeId} {K : Type} [DecidableEq K]

def getL (l : List (K × Value)) (x : K) : Option Value := (l.find? (fun p => p.1 = x)).map (·.2)
def putL (l : List (K × Value)) (x : K) (v : Value) : List (K × Value) :=
  if (getL l x).isSome then l.map (fun p => if p.1 = x then (x, v) else p) else l ++ [(x, v)]

theorem getL_none {l : List (K × Value)} {x : K} : getL l x = none ↔ ∀ p ∈ l, p.1 ≠ x := by
  simp [getL]
theorem getL_isSome {l : List (K × Value)} {x : K} : (getL l x).isSome = true ↔ ∃ p ∈ l, p.1 = x := by
  simp [getL]
theorem getL_append {l m : List (K × Value)} {x : K} : getL (l ++ m) x = (getL l x).or (getL m x) := by
  simp only [getL, List.find?_append]
  cases List.find? (fun p => decide (p.1 = x)) l <;> rfl
theorem getL_map (l : List (K × Value)) (x y : K) (v : Value) : getL (l.map (fun p => if p.1 = x then (x, v) else p)) y = if y = x then (getL l x).map (fun _ => v) else getL l y := by
  induction l with
  | nil => simp [getL]
  | cons p l ih =>
    simp only [getL, List.map_cons, List.find?_cons] at ih ⊢
    by_cases hp : p.1 = x
    · by_cases hy : y = x
      · simp [hp, hy]
      · have h2 : ¬ x = y := fun e => hy e.symm
        simp only [hp, if_true, h2, decide_false, hy, if_false] at ih ⊢
        exact ih
    · by_cases hy : y = x
      · subst hy
        simp only [hp, if_false, decide_false, if_true] at ih ⊢
        exact ih
      · by_cases h2 : p.1 = y
        · have h3 : ¬ y = x := hy
          simp only [if_false, h2, decide_true, h3]
        · simp only [hp, if_false, h2, decide_false, hy] at ih ⊢
          exact ih
theorem getL_put (l : List (K × Value)) (x y : K) (v : Value) : getL (putL l x v) y = if y = x then some v else getL l y := by
  unfold putL
  cases h : getL l x with
  | none =>
    simp only [Option.isSome_none, Bool.false_eq_true, if_false]
    rw [getL_append]
    by_cases hy : y = x
    · subst hy
      rw [h, if_pos rfl]
      simp [getL]
    · rw [if_neg hy]
      have : getL [(x, v)] y = none := by
        rw [getL_none]
        intro p hp e
        simp at hp
        subst hp
        exact hy e.symm
      rw [this, Option.or_none]
  | some u =>
    simp only [Option.isSome_some, if_true]
    rw [getL_map, h]
    rfl
theorem putL_new {l : List (K × Value)} {x : K} (h : getL l x = none) (v : Value) : putL l x v = l ++ [(x, v)] := by simp [putL, h]
theorem putL_len (l : List (K × Value)) (x : K) (v : Value) : (putL l x v).length = l.length + (if (getL l x).isSome then 0 else 1) := by
  unfold putL
  split <;> simp

variable {H : Type}
theorem putL_keys {l : List (K × Value)} {x : K} {v : Value} {p : K × Value} (h : p ∈ putL l x v) : p.1 = x ∨ p ∈ l := by
  unfold putL at h
  split at h
  · obtain ⟨q, hq, rfl⟩ := List.mem_map.1 h
    by_cases e : q.1 = x
    · simp [e]
    · simp only [e, if_false]
      exact .inr hq
  · rcases List.mem_append.1 h with h | h
    · exact .inr h
    · simp at h
      exact .inl (by rw [h])

/-- BLOCK b OF w IS A MAP WITH THESE PAIRS. -/
structure MapL (B : KeyBy P k K) (w : World) (b : Nat) (l : List (K × Value)) : Prop where
  own : ∃ D, w.ownsMap P k hv b l.length D ∧ Maps.size D = l.length ∧ (∀ x, B.ok x → Maps.has D (B.lit x) = (getL l x).isSome) ∧ (∀ x, B.ok x → ∀ v, getL l x = some v → ∀ z, D.atKey (B.lit x) z = .held v) ∧ (∀ q, Maps.has D q = true → ∃ p ∈ l, q = B.lit p.1)
  okk : ∀ p ∈ l, B.ok p.1

theorem has_key {D : DataW H} {es : List (Lit × DataW H)} (e : D = .map es) {q : Lit} (h : Maps.has D q = true) : ∃ p ∈ es, p.1.sameKey q = true := by
  subst e
  exact List.any_eq_true.1 h
theorem atKey_not {D : DataW H} {q : Lit} (h : Maps.has D q = false) (z : DataW H) : D.atKey q z = z := by
  cases D <;> try rfl
  rename_i es
  have h2 : ∀ p ∈ es, p.1.sameKey q = false := by
    have := h
    rw [Maps.has_eq, List.any_eq_false] at this
    intro p hp
    simpa using this p hp
  show (match es.find? (fun p => p.1.sameKey q) with | some p => p.2 | none => z) = z
  rw [List.find?_eq_none.2 (fun p hp => by rw [h2 p hp]; decide)]

theorem mapL_made (B : KeyBy P k K) (w : World) : MapL B (w.alloc (.map #[] 0)) w.heap.size [] :=
  ⟨⟨.map [], World.ownsMap_made w P k hv, rfl, fun _ _ => rfl, fun _ _ v h => (by cases h), fun q h => (by cases h)⟩, fun _ h => (by cases h)⟩
theorem MapL.lt {B : KeyBy P k K} {w : World} {b : Nat} {l : List (K × Value)} (h : MapL B w b l) : b < w.heap.size := by
  obtain ⟨⟨D, h, _⟩, _⟩ := h
  exact h.lt
theorem MapL.kept {B : KeyBy P k K} {w w' : World} {row : Option Nat} {b : Nat} {l : List (K × Value)} (h : MapL B w b l) (hg : w.grownBy w' row) (hne : some b ≠ row) : MapL B w' b l := by
  obtain ⟨⟨D, h1, h2⟩, h3⟩ := h
  exact ⟨⟨D, h1.kept hg hne, h2⟩, h3⟩
theorem MapL.same {B : KeyBy P k K} {w w' : World} {b : Nat} {l : List (K × Value)} (h : MapL B w b l) (e : w'.heap[b]? = w.heap[b]?) : MapL B w' b l := by
  obtain ⟨⟨D, ⟨es, clock, h0, h1⟩, h2⟩, h3⟩ := h
  exact ⟨⟨D, ⟨es, clock, e.trans h0, h1⟩, h2⟩, h3⟩
theorem MapL.alloc {B : KeyBy P k K} {w : World} {b : Nat} {l : List (K × Value)} (h : MapL B w b l) (o : Obj) : MapL B (w.alloc o) b l := h.kept (World.grownBy_alloc w o none) (by simp)
theorem MapL.setCell {B : KeyBy P k K} {w : World} {b : Nat} {l : List (K × Value)} (h : MapL B w b l) {a : Addr} (ha : b ≠ a.block) (u : Value) : MapL B (w.setCell a u) b l := by
  obtain ⟨⟨D, h1, h2⟩, h3⟩ := h
  exact ⟨⟨D, h1.setCell ha u, h2⟩, h3⟩
theorem MapL.drew {B : KeyBy P k K} {w : World} {b : Nat} {l : List (K × Value)} (h : MapL B w b l) : MapL B w.drew b l := by
  obtain ⟨⟨D, h1, h2⟩, h3⟩ := h
  exact ⟨⟨D, h1, h2⟩, h3⟩

theorem MapL.look {B : KeyBy P k K} {w : World} {b : Nat} {l : List (K × Value)} (h : MapL B w b l) {t e : TypeId} (ht : P.underlying t = some (.map k e)) {z : Value} (hz : ∀ w : World, (zeroValue e).run P w = .ok z w) {x : K} (hx : B.ok x) :
    (Instr.lookup t (.map (some b)) (B.val x) false).run P w = .ok ((getL l x).getD z) w := by
  obtain ⟨⟨D, h1, _, h3, h4, _⟩, _⟩ := h
  obtain ⟨v, ps, hrun, hR⟩ := h1.lookup B.keyed ht (hz w) (zd := .held z) (zp := []) rfl (B.key x hx)
  have e : (getL l x).getD z = v := by
    have h5 : (DataW.held v : DataW Value) = D.atKey (B.lit x) (.held z) := by simpa [hv] using congrArg (Option.map Prod.fst) hR
    cases hg : getL l x with
    | none =>
      have h6 := h3 x hx
      rw [hg] at h6
      rw [atKey_not h6] at h5
      simp at h5
      exact h5.symm
    | some u =>
      rw [h4 x hx u hg] at h5
      simp at h5
      exact h5.symm
  rw [e]
  exact hrun
theorem MapL.look_ok {B : KeyBy P k K} {w : World} {b : Nat} {l : List (K × Value)} (h : MapL B w b l) {t e : TypeId} (ht : P.underlying t = some (.map k e)) {z : Value} (hz : ∀ w : World, (zeroValue e).run P w = .ok z w) {x : K} (hx : B.ok x) :
    (Instr.lookup t (.map (some b)) (B.val x) true).run P w = .ok (.tuple #[(getL l x).getD z, .bool (getL l x).isSome]) w := by
  obtain ⟨⟨D, h1, _, h3, h4, _⟩, _⟩ := h
  obtain ⟨v, ps, hrun, hR⟩ := h1.look_ok B.keyed ht (hz w) (zd := .held z) (zp := []) rfl (B.key x hx)
  rw [h3 x hx] at hrun
  have e : (getL l x).getD z = v := by
    have h5 : (DataW.held v : DataW Value) = D.atKey (B.lit x) (.held z) := by simpa [hv] using congrArg (Option.map Prod.fst) hR
    cases hg : getL l x with
    | none =>
      have h6 := h3 x hx
      rw [hg] at h6
      rw [atKey_not h6] at h5
      simp at h5
      exact h5.symm
    | some u =>
      rw [h4 x hx u hg] at h5
      simp at h5
      exact h5.symm
  rw [e]
  exact hrun
theorem MapL.len {B : KeyBy P k K} {w : World} {b : Nat} {l : List (K × Value)} (h : MapL B w b l) {t e : TypeId} (ht : P.underlying t = some (.map k e)) (ty : TypeId) : (Builtin.len_ #[t] ty #[.map (some b)]).run P w = .ok (.int .i64 l.length) w := by
  obtain ⟨⟨D, h1, h2, _⟩, _⟩ := h
  rw [← h2]
  exact h1.len ht ty

omit [DecidableEq K] in
theorem lit_key {B : KeyBy P k K} {x : K} (hx : B.ok x) : WideAt.IsKeyLit (B.lit x) := B.keyed.key (B.key x hx)
theorem sizes_put {D : DataW H} (hD : Tidy D) (q : Lit) (d : DataW H) : Maps.size (D.put q d) = Maps.size D + (if Maps.has D q then 0 else 1) := by
  obtain ⟨es, rfl, hp⟩ := hD
  show (DataW.insert (q, d) (es.filter fun p => !p.1.sameKey q)).length = es.length + (if es.any (fun p => p.1.sameKey q) then 0 else 1)
  rw [length_insert]
  have key : ∀ es : List (Lit × DataW H), es.Pairwise (fun p q => p.1 ≠ q.1) → (es.filter fun p => !p.1.sameKey q).length + 1 = es.length + (if es.any (fun p => p.1.sameKey q) then 0 else 1) := by
    intro es hp
    induction es with
    | nil => rfl
    | cons p es ih =>
      obtain ⟨h1, h2⟩ := List.pairwise_cons.1 hp
      have ih := ih h2
      by_cases hk : p.1.sameKey q = true
      · have hpq : p.1 = q := WideAt.sameKey_eq hk
        have hno : es.any (fun p => p.1.sameKey q) = false := by
          rw [List.any_eq_false]
          intro r hr
          have := sameKey_ne (a := r.1) (b := q) (fun e => h1 r hr (by rw [hpq, e]))
          simp [this]
        rw [hno] at ih
        simp only [List.filter_cons, hk, List.any_cons, Bool.true_or, if_true, Bool.not_true, Bool.false_eq_true, if_false, List.length_cons] at ih ⊢
        omega
      · have hk2 : p.1.sameKey q = false := by simpa using hk
        simp only [List.filter_cons, hk2, List.any_cons, Bool.false_or, Bool.not_false, if_true, List.length_cons] at ih ⊢
        omega
  exact key es hp

theorem MapL.store {B : KeyBy P k K} {w : World} {b : Nat} {l : List (K × Value)} (h : MapL B w b l) {t e : TypeId} (ht : P.underlying t = some (.map k e)) (hn : l.length < maxLen) {x : K} (hx : B.ok x) (v : Value) :
    ∃ w', (Instr.mapUpdate t (.map (some b)) (B.val x) v).run P w = .ok () w' ∧ MapL B w' b (putL l x v) ∧ w.mapTurned w' b := by
  obtain ⟨⟨D, h1, h2, h3, h4, h5⟩, h6⟩ := h
  obtain ⟨w', hrun, ho, ht'⟩ := h1.store B.keyed ht hn (d := .held v) (ps := []) (B.key x hx) rfl
  have hT := h1.tidy B.keyed
  have hsz : Maps.size (D.put (B.lit x) (.held v)) = (putL l x v).length := by
    rw [sizes_put hT, putL_len, h3 x hx, h2]
  refine ⟨w', hrun, ⟨⟨_, ?_, hsz, ?_, ?_, ?_⟩, ?_⟩, ht'⟩
  · obtain ⟨es, clock, e1, e2, e3, e4⟩ := ho
    refine ⟨es, clock, e1, e2, ?_, e4⟩
    rw [← hsz, e4]
    simp [Maps.size, length_sorted]
  · intro y hy
    rw [getL_put]
    by_cases e : y = x
    · subst e
      rw [if_pos rfl, has_put_same hT.isMap (lit_key hx)]
      rfl
    · rw [if_neg e, has_put_other (fun e2 => e (B.inj y x hy hx e2)), h3 y hy]
  · intro y hy u hu z
    rw [getL_put] at hu
    by_cases e : y = x
    · subst e
      rw [if_pos rfl] at hu
      cases hu
      exact atKey_put_same hT.isMap (lit_key hx) _ _
    · rw [if_neg e] at hu
      rw [atKey_put_other (fun e2 => e (B.inj y x hy hx e2))]
      exact h4 y hy u hu z
  · intro q hq
    by_cases e : q = B.lit x
    · subst e
      have : (getL (putL l x v) x).isSome = true := by rw [getL_put, if_pos rfl]; rfl
      obtain ⟨p, hp, e⟩ := getL_isSome.1 this
      exact ⟨p, hp, by rw [e]⟩
    · rw [has_put_other e] at hq
      obtain ⟨p, hp, rfl⟩ := h5 q hq
      have : (getL (putL l x v) p.1).isSome = true := by
        rw [getL_put]
        split
        · rfl
        · exact getL_isSome.2 ⟨p, hp, rfl⟩
      obtain ⟨p', hp', e'⟩ := getL_isSome.1 this
      exact ⟨p', hp', by rw [e']⟩
  · intro p hp
    rcases putL_keys hp with e | e
    · rw [e]; exact hx
    · exact h6 p e
end

/-- Keys that are strings. -/
def strKeys (P : Program) (k : TypeId) (hk : P.underlying k = some .string) : KeyBy P k ByteArray where
  val := .string
  lit := fun s => .string s.data.toList
  ok := fun s => s.size ≤ maxLen
  keyed := string_keyed hk
  key := fun _ h => WideMaps.keyOf_string_mk hk h
  inj := fun x y _ _ e => by
    simp only [Lit.string.injEq] at e
    cases x; cases y
    simp at e
    rw [e]
end Go.Proofs.PlMap

/-! The network of a map as plain data (layer 16). No program in sight. -/
namespace Go.Proofs.PlNet
open Go Go.Proofs.PlLex

theorem toList_inj {a b : ByteArray} : a.toList = b.toList ↔ a = b := by
  rw [ByteArray.toList_eq, ByteArray.toList_eq]
  constructor
  · intro h
    cases a; cases b
    simp at h
    rw [h]
  · rintro rfl; rfl
theorem hasS_cons (s x : ByteArray) (l : List ByteArray) : hasS s (x :: l) = (x.toList == s.toList || hasS s l) := rfl
theorem hasS_mem (s : ByteArray) (l : List ByteArray) : hasS s l = true ↔ s ∈ l := by
  induction l with
  | nil => simp [hasS]
  | cons x l ih =>
    rw [hasS_cons, Bool.or_eq_true, ih, beq_iff_eq, List.mem_cons, toList_inj]
    constructor
    · rintro (h | h)
      · exact .inl h.symm
      · exact .inr h
    · rintro (h | h)
      · exact .inl h.symm
      · exact .inr h
/-! The sound objects of a valid map. -/
def nodesO (l : List Ob) : List Ob := l.filter (fun o => decide (o.kind = 1))
def findO (l : List Ob) (s : ByteArray) : Option Ob := l.find? (fun o => decide (o.id = s))
def isNode (l : List Ob) (s : ByteArray) : Bool := (findO (nodesO l) s).isSome
def wayB (l : List Ob) (o : Ob) : Bool := decide (o.kind = 2) && o.refs.all (isNode l)
def waysO (l : List Ob) : List Ob := l.filter (wayB l)
def wayAt (l : List Ob) (s : ByteArray) : Option (List ByteArray) := (findO (waysO l) s).map Ob.refs
def nodeAt (l : List Ob) (s : ByteArray) : Int × Int := ((findO (nodesO l) s).map (fun o => (o.x, o.y))).getD (0, 0)

/-! The order of strings. -/
theorem less_irrefl (a : List UInt8) : Go.Op.bytesLess a a = false := by
  induction a with
  | nil => rfl
  | cons c a ih => simp [Go.Op.bytesLess, ih]
theorem less_trans {a b c : List UInt8} (h1 : Go.Op.bytesLess a b = true) (h2 : Go.Op.bytesLess b c = true) : Go.Op.bytesLess a c = true := by
  induction a generalizing b c with
  | nil => cases c with
    | nil => cases b <;> simp [Go.Op.bytesLess] at h2
    | cons z c => rfl
  | cons x a ih => cases b with
    | nil => simp [Go.Op.bytesLess] at h1
    | cons y b => cases c with
      | nil => simp [Go.Op.bytesLess] at h2
      | cons z c =>
        simp only [Go.Op.bytesLess, Bool.or_eq_true, decide_eq_true_eq, Bool.and_eq_true, beq_iff_eq] at h1 h2 ⊢
        rcases h1 with h1 | ⟨rfl, h1⟩
        · rcases h2 with h2 | ⟨rfl, h2⟩
          · exact .inl (UInt8.lt_trans h1 h2)
          · exact .inl h1
        · rcases h2 with h2 | ⟨rfl, h2⟩
          · exact .inl h2
          · exact .inr ⟨rfl, ih h1 h2⟩
theorem less_tri {a b : List UInt8} (h1 : Go.Op.bytesLess a b = false) (h2 : a ≠ b) : Go.Op.bytesLess b a = true := by
  induction a generalizing b with
  | nil => cases b with
    | nil => exact (h2 rfl).elim
    | cons y b => simp [Go.Op.bytesLess] at h1
  | cons x a ih => cases b with
    | nil => rfl
    | cons y b =>
      simp only [Go.Op.bytesLess, Bool.or_eq_false_iff, decide_eq_false_iff_not, Bool.and_eq_false_iff, beq_eq_false_iff_ne] at h1
      simp only [Go.Op.bytesLess, Bool.or_eq_true, decide_eq_true_eq, Bool.and_eq_true, beq_iff_eq]
      by_cases e : x = y
      · subst e
        right
        refine ⟨rfl, ih ?_ (fun e => h2 (by rw [e]))⟩
        rcases h1.2 with h | h
        · exact (h rfl).elim
        · exact h
      · left
        rcases UInt8.lt_or_le y x with h | h
        · exact h
        · rcases UInt8.lt_or_eq_of_le h with h | h
          · exact (h1.1 h).elim
          · exact (e h).elim
theorem less_asymm {a b : List UInt8} (h : Go.Op.bytesLess a b = true) : Go.Op.bytesLess b a = false ∧ a ≠ b := by
  refine ⟨?_, ?_⟩
  · cases e : Go.Op.bytesLess b a with
    | false => rfl
    | true => have := less_trans h e; rw [less_irrefl] at this; cases this
  · rintro rfl
    rw [less_irrefl] at h; cases h

/-! Ids increase. -/
def lessO (a b : Ob) : Prop := Go.Op.bytesLess a.id.toList b.id.toList = true
theorem mapL_incr (l : List Ob) (last : ByteArray) (h : mapL last l = true) : l.Pairwise lessO ∧ (∀ o ∈ l, Go.Op.bytesLess last.toList o.id.toList = true) ∧ ∀ o ∈ l, obB o = true := by
  induction l generalizing last with
  | nil => exact ⟨.nil, (fun t ht => nomatch ht), fun t ht => nomatch ht⟩
  | cons o l ih =>
    simp only [mapL, Bool.and_eq_true, Bool.not_eq_true'] at h
    obtain ⟨⟨⟨h0, h1⟩, h2⟩, h3⟩ := h
    obtain ⟨i1, i2, i3⟩ := ih o.id h3
    have hl : Go.Op.bytesLess last.toList o.id.toList = true := less_tri h1 (by intro e; rw [e] at h2; simp at h2)
    refine ⟨List.pairwise_cons.2 ⟨fun x hx => i2 x hx, i1⟩, fun x hx => ?_, fun x hx => ?_⟩
    · rcases List.mem_cons.1 hx with e | e
      · rw [e]; exact hl
      · exact less_trans hl (i2 x e)
    · rcases List.mem_cons.1 hx with e | e
      · rw [e]; exact h0
      · exact i3 x e
theorem mapL_of (l : List Ob) (last : ByteArray) (h1 : l.Pairwise lessO) (h2 : ∀ o ∈ l, Go.Op.bytesLess last.toList o.id.toList = true) (h3 : ∀ o ∈ l, obB o = true) : mapL last l = true := by
  induction l generalizing last with
  | nil => rfl
  | cons o l ih =>
    obtain ⟨p1, p2⟩ := List.pairwise_cons.1 h1
    have hl := less_asymm (h2 o (List.mem_cons_self ..))
    simp only [mapL, Bool.and_eq_true, Bool.not_eq_true']
    refine ⟨⟨⟨h3 o (List.mem_cons_self ..), hl.1⟩, beq_eq_false_iff_ne.2 (fun e => hl.2 e.symm)⟩, ih o.id p2 (fun x hx => p1 x hx) (fun x hx => h3 x (List.mem_cons_of_mem _ hx))⟩
theorem less_ne {a b : Ob} (h : lessO a b) : a.id ≠ b.id := fun e => (less_asymm h).2 (by rw [e])
/-- Ids that are all different. -/
def uniq (l : List Ob) : Prop := l.Pairwise (fun a b => a.id ≠ b.id)
theorem mapB_uniq {l : List Ob} (h : mapB l = true) : uniq l := by
  unfold mapB at h
  rw [Bool.and_eq_true] at h
  exact (mapL_incr l _ h.1).1.imp (fun h => less_ne h)
theorem uniq.eq {l : List Ob} (h : uniq l) {a b : Ob} (ha : a ∈ l) (hb : b ∈ l) (e : a.id = b.id) : a = b := by
  induction l with
  | nil => cases ha
  | cons o l ih =>
    obtain ⟨p1, p2⟩ := List.pairwise_cons.1 h
    rcases List.mem_cons.1 ha with ea | ea
    · rcases List.mem_cons.1 hb with eb | eb
      · rw [ea, eb]
      · exact (p1 b eb (by rw [← ea]; exact e)).elim
    · rcases List.mem_cons.1 hb with eb | eb
      · exact (p1 a ea (by rw [← eb]; exact e.symm)).elim
      · exact ih p2 ea eb
theorem uniq.filter {l : List Ob} (h : uniq l) (p : Ob → Bool) : uniq (l.filter p) := List.Pairwise.filter p h
theorem findO_mem {l : List Ob} (h : uniq l) {o : Ob} (ho : o ∈ l) : findO l o.id = some o := by
  cases e : findO l o.id with
  | none =>
    have := List.find?_eq_none.1 e o ho
    simp at this
  | some x =>
    have h1 := List.mem_of_find?_eq_some e
    have h2 := List.find?_some e
    rw [h.eq h1 ho (by simpa using h2)]
theorem findO_some {l : List Ob} {s : ByteArray} {o : Ob} (h : findO l s = some o) : o ∈ l ∧ o.id = s := ⟨List.mem_of_find?_eq_some h, by have := List.find?_some h; simpa using this⟩
theorem findO_none {l : List Ob} {s : ByteArray} (h : findO l s = none) : ∀ o ∈ l, o.id ≠ s := by
  intro o ho e
  have := List.find?_eq_none.1 h o ho
  simp [e] at this
end Go.Proofs.PlNet

/-! Routes and turns of a network as plain data: sound, connected, meeting (layer 16). No program in sight. -/
namespace Go.Proofs.PlNet
open Go Go.Proofs.PlLex

def soundL (l : List Ob) (k : Int) : Nat → List ByteArray → Bool
  | _, [] => true
  | i, s :: r => (if k = 5 ∧ i = 1 then isNode l s else (wayAt l s).isSome) && soundL l k (i + 1) r
def soundB (l : List Ob) (o : Ob) : Bool := soundL l o.kind 0 o.refs
def firstN (l : List Ob) (s : ByteArray) : ByteArray := ((wayAt l s).getD []).headD ⟨#[]⟩
def lastN (l : List Ob) (s : ByteArray) : ByteArray := ((wayAt l s).getD []).getLastD ⟨#[]⟩
def reachB (a b : ByteArray) (p q : Bool) (n : ByteArray) : Bool := p && a.toList == n.toList || q && b.toList == n.toList
def connM (l : List Ob) : ByteArray → ByteArray → Bool → Bool → List ByteArray → Bool
  | _, _, p, q, [] => p || q
  | a, b, p, q, s :: r => connM l (firstN l s) (lastN l s) (reachB a b p q (lastN l s)) (reachB a b p q (firstN l s)) r
def connB (l : List Ob) : List ByteArray → Bool
  | [] => true
  | s :: r => connM l (firstN l s) (lastN l s) true true r
def refAt (o : Ob) (i : Nat) : ByteArray := o.refs.getD i ⟨#[]⟩
def meetsB (l : List Ob) (o : Ob) : Bool := hasS (refAt o 1) ((wayAt l (refAt o 0)).getD []) && hasS (refAt o 1) ((wayAt l (refAt o 2)).getD [])
def badRoute (l : List Ob) (o : Ob) : Bool := decide (o.kind = 4) && soundB l o && !connB l o.refs
def badTurn (l : List Ob) (o : Ob) : Bool := decide (o.kind = 5) && soundB l o && !meetsB l o
/-- What Check finds: kinds and Ids. -/
def checkL (l : List Ob) : List (Int × ByteArray) := (l.filter (badRoute l)).map (fun o => (5, o.id)) ++ (l.filter (badTurn l)).map (fun o => (6, o.id))

theorem mapB_obs {l : List Ob} (h : mapB l = true) : ∀ o ∈ l, obB o = true := by
  unfold mapB at h
  rw [Bool.and_eq_true] at h
  exact (mapL_incr l _ h.1).2.2
theorem obB_least {o : Ob} (h : obB o = true) : leastK o.kind ≤ o.refs.length := by
  unfold obB headB at h
  simp only [Bool.and_eq_true, decide_eq_true_eq] at h
  exact h.1.1.1.2
theorem wayAt_some {l : List Ob} {s : ByteArray} {r : List ByteArray} (h : wayAt l s = some r) : ∃ o ∈ l, o.id = s ∧ o.kind = 2 ∧ o.refs = r ∧ ∀ x ∈ r, isNode l x = true := by
  unfold wayAt at h
  obtain ⟨o, ho, rfl⟩ := Option.map_eq_some_iff.1 h
  obtain ⟨h1, h2⟩ := findO_some ho
  unfold waysO wayB at h1
  rw [List.mem_filter, Bool.and_eq_true, decide_eq_true_eq, List.all_eq_true] at h1
  exact ⟨o, h1.1, h2, h1.2.1, rfl, h1.2.2⟩
end Go.Proofs.PlNet
