/-
  A law on regions that draw their order, inside a fence: where every operation from some place on waits for one operation, and all ahead of it leave the world within a class, the first ones are walked once, in the order of the text.
-/
import Derived.Sort.QuietThIn
import Derived.StillTail
import Derived.Test.YtpiocaomlifljaaPlain2
import Derived.Test.YtpiocaomlifljaaPlain5
namespace Go

section
variable {F : Fence} {n : Nat} {P : Program} {ops : Array Oper} {md : Region.Mode} {C : World → Prop}

/-- May the operations from m on be taken in order up to n₀, which all later ones wait for? -/
def Region.uptoB (md : Region.Mode) (ops : Array Oper) (m n₀ : Nat) : Bool :=
  ((List.range n₀).all fun i => decide (i < m) || (List.range (n₀ + 1)).any fun j => decide (i < j) && Region.waitsFor md ops j i) &&
  ((List.range ops.size).all fun t => decide (t ≤ n₀) || (List.range t).any fun j => decide (n₀ ≤ j) && Region.waitsFor md ops t j) &&
  ((List.range n₀).all fun i => match ops[i]? with | some o => o.after.all (fun e => !Region.binds md e || decide (e.on < i)) | none => false)

structure UptoOk (md : Region.Mode) (ops : Array Oper) (m n₀ : Nat) : Prop where
  sink : ∀ i, m ≤ i → i < n₀ → ∃ j, i < j ∧ j ≤ n₀ ∧ Region.waitsFor md ops j i = true
  tail : ∀ t, n₀ < t → t < ops.size → ∃ j, n₀ ≤ j ∧ j < t ∧ Region.waitsFor md ops t j = true
  dag : ∀ i, i < n₀ → ∃ o, ops[i]? = some o ∧ ∀ e ∈ o.after, Region.binds md e = true → e.on < i
theorem Region.uptoB_spec {m n₀ : Nat} (h : Region.uptoB md ops m n₀ = true) : UptoOk md ops m n₀ := by
  unfold Region.uptoB at h
  simp only [Bool.and_eq_true, List.all_eq_true, List.mem_range, Bool.or_eq_true, decide_eq_true_eq, List.any_eq_true] at h
  obtain ⟨⟨h1, h2⟩, h3⟩ := h
  refine ⟨fun i hm hi => ?_, fun t ht hs => ?_, fun i hi => ?_⟩
  · rcases h1 i hi with h | ⟨j, hj, h4, h5⟩
    · omega
    · exact ⟨j, h4, by omega, h5⟩
  · rcases h2 t hs with h | ⟨j, hj, h4, h5⟩
    · omega
    · exact ⟨j, h4, hj, h5⟩
  · have := h3 i hi
    cases ho : ops[i]? with
    | none => rw [ho] at this; simp at this
    | some o =>
      rw [ho] at this
      simp only [Array.all_eq_true_iff_forall_mem, Bool.or_eq_true, Bool.not_eq_true', decide_eq_true_eq] at this
      exact ⟨o, rfl, fun e he hb => (this e he).resolve_left (by rw [hb]; decide)⟩

/-- The first k operations have come up. -/
def bitsTo (size k : Nat) : Array Bool := Array.ofFn (n := size) fun i => decide (i.val < k)
def plusL (size n₀ : Nat) (L : Array Bool) : Array Bool := Array.ofFn (n := size) fun i => L.getD i.val true || decide (n₀ ≤ i.val)
theorem getD_ofFn {size : Nat} (f : Fin size → Bool) (i : Nat) (d : Bool) (h : i < size) : (Array.ofFn f).getD i d = f ⟨i, h⟩ := by
  simp [h]
structure PInv (md : Region.Mode) (ops : Array Oper) (m n₀ : Nat) (L : Array Bool) : Prop where
  size : L.size = ops.size
  low : ∀ i, i < m → i < ops.size → L.getD i true = true
  tail : ∀ t, n₀ ≤ t → t < ops.size → L.getD t true = false
  closed : ∀ j oj, ops[j]? = some oj → m ≤ j → L.getD j false = true → ∀ e ∈ oj.after, Region.binds md e = true → L.getD e.on false = true
theorem getD_lt {L : Array Bool} {i : Nat} (h : i < L.size) (d d' : Bool) : L.getD i d = L.getD i d' := by simp [h]
theorem PInv.set {m n₀ i : Nat} {L : Array Bool} (inv : PInv md ops m n₀ L) (hi : i ∈ Region.ready md ops L) (hin : i < n₀) : PInv md ops m n₀ (L.setIfInBounds i true) := by
  obtain ⟨_, oi, hoi, hall⟩ := mem_ready.1 hi
  have his : i < L.size := by rw [inv.size]; exact (Array.getElem?_eq_some_iff.1 hoi).1
  refine ⟨by simp [inv.size], fun j hj hs => ?_, fun t ht hs => by rw [getD_set_ne true (by omega)]; exact inv.tail t ht hs, fun j oj hoj hm hl e he hb => ?_⟩
  · by_cases e : i = j
    · subst e; simp [his]
    · rw [getD_set_ne true e]; exact inv.low j hj hs
  · have key : L.getD e.on false = true := by
      by_cases hij : i = j
      · subst hij
        have : oj = oi := Option.some.inj (hoj.symm.trans hoi)
        subst this
        exact hall e he hb
      · rw [getD_set_ne false hij] at hl
        exact inv.closed j oj hoj hm hl e he hb
    by_cases hie : i = e.on
    · rw [← hie]; simp [his]
    · rw [getD_set_ne false hie]; exact key
theorem plus_getD {n₀ : Nat} {L : Array Bool} (i : Nat) (d : Bool) (h : i < ops.size) : (plusL ops.size n₀ L).getD i d = (L.getD i true || decide (n₀ ≤ i)) := by
  unfold plusL
  rw [getD_ofFn _ _ _ h]
theorem plus_set {n₀ i : Nat} {L : Array Bool} (hL : L.size = ops.size) : plusL ops.size n₀ (L.setIfInBounds i true) = (plusL ops.size n₀ L).setIfInBounds i true := by
  apply Array.ext_getElem?
  intro j
  unfold plusL
  by_cases hj : j < ops.size
  · by_cases hij : i = j
    · subst hij
      simp [hj, hL]
    · rw [Array.getElem?_setIfInBounds_ne hij]
      simp [hj, hL, Array.getElem_setIfInBounds, hij]
  · rw [Array.getElem?_eq_none (by simp; omega), Array.getElem?_eq_none (by simp; omega)]
theorem PInv.ready {m n₀ i : Nat} {L : Array Bool} (inv : PInv md ops m n₀ L) (hi : i ∈ Region.ready md ops L) (hin : i < n₀) : i ∈ Region.ready md ops (plusL ops.size n₀ L) := by
  obtain ⟨h0, o, ho, hall⟩ := mem_ready.1 hi
  have his := (Array.getElem?_eq_some_iff.1 ho).1
  refine mem_ready.2 ⟨?_, o, ho, fun e he hb => ?_⟩
  · rw [plus_getD i true his, h0]
    simp
    omega
  · have := hall e he hb
    have hes : e.on < ops.size := by
      rcases Nat.lt_or_ge e.on L.size with h | h
      · rw [← inv.size]; exact h
      · simp [Array.getElem?_eq_none h] at this
    rw [plus_getD e.on false hes, getD_lt (by rw [inv.size]; exact hes) true false, this]
    rfl
theorem PInv.all {m n₀ t : Nat} {L : Array Bool} (inv : PInv md ops m n₀ L) (hok : UptoOk md ops m n₀) (ht : t ∈ Region.ready md ops L) (htn : n₀ ≤ t) : ∀ i, i < n₀ → i < ops.size → L.getD i true = true := by
  obtain ⟨h0, o, ho, hall⟩ := mem_ready.1 ht
  have hts := (Array.getElem?_eq_some_iff.1 ho).1
  have dep : ∀ j, Region.waitsFor md ops t j = true → L.getD j false = true := by
    intro j hj
    obtain ⟨oj, hoj, e, he, hb, rfl⟩ := Region.waitsFor_spec hj
    have : oj = o := Option.some.inj (hoj.symm.trans ho)
    subst this
    exact hall e he hb
  rcases Nat.lt_or_eq_of_le htn with hlt | heq
  · obtain ⟨j, hj1, hj2, hj3⟩ := hok.tail t hlt hts
    have h1 := dep j hj3
    have h2 := inv.tail j hj1 (by omega)
    rw [getD_lt (by rw [inv.size]; omega) true false, h1] at h2
    cases h2
  · subst heq
    intro i hin his
    -- downwards from n₀
    have key : ∀ d i, i < n₀ → i < ops.size → n₀ - i ≤ d → L.getD i true = true := by
      intro d
      induction d with
      | zero => intro i hi _ hd; omega
      | succ d ih =>
        intro i hi his hd
        by_cases him : i < m
        · exact inv.low i him his
        · obtain ⟨j, hij, hjn, hw⟩ := hok.sink i (by omega) hi
          by_cases hjn2 : j = n₀
          · subst hjn2
            have := dep i hw
            rw [getD_lt (by rw [inv.size]; exact his) true false]
            exact this
          · have hjs : j < ops.size := by omega
            have hl := ih j (by omega) hjs (by omega)
            obtain ⟨oj, hoj, e, he, hb, rfl⟩ := Region.waitsFor_spec hw
            rw [getD_lt (by rw [inv.size]; exact hjs) true false] at hl
            rw [getD_lt (by rw [inv.size]; exact his) true false]
            exact inv.closed j oj hoj (by omega) hl e he hb
    exact key _ i hin his (Nat.le_refl _)
theorem PInv.full {m n₀ : Nat} {L : Array Bool} (inv : PInv md ops m n₀ L) (h : ∀ i, i < n₀ → i < ops.size → L.getD i true = true) : L = bitsTo ops.size n₀ := by
  apply Array.ext_getElem?
  intro i
  unfold bitsTo
  by_cases hi : i < ops.size
  · have e : L[i]? = some (L.getD i true) := by
      have : i < L.size := by rw [inv.size]; exact hi
      simp [this]
    rw [e]
    simp only [Array.getElem?_ofFn, hi, dif_pos]
    congr 1
    by_cases hin : i < n₀
    · rw [h i hin hi]; simp [hin]
    · rw [inv.tail i (by omega) hi]; simp [hin]
  · rw [Array.getElem?_eq_none (by rw [inv.size]; omega), Array.getElem?_eq_none (by simp; omega)]
theorem PInv.some {m n₀ : Nat} {L : Array Bool} (inv : PInv md ops m n₀ L) (hok : UptoOk md ops m n₀) (h : ¬ ∀ i, i < n₀ → i < ops.size → L.getD i true = true) : ∃ i, i < n₀ ∧ i ∈ Region.ready md ops L := by
  -- the least one that has not come up
  have key : ∀ k, (∀ i, i < k → i < n₀ → i < ops.size → L.getD i true = true) ∨ ∃ i, i < n₀ ∧ i ∈ Region.ready md ops L := by
    intro k
    induction k with
    | zero => exact .inl (fun i hi => by omega)
    | succ k ih =>
      rcases ih with ih | ih
      · by_cases hk : k < n₀ ∧ k < ops.size
        · cases hl : L.getD k true with
          | true =>
            refine .inl (fun i hi hin his => ?_)
            by_cases e : i = k
            · rw [e]; exact hl
            · exact ih i (by omega) hin his
          | false =>
            obtain ⟨o, ho, hd⟩ := hok.dag k hk.1
            refine .inr ⟨k, hk.1, mem_ready.2 ⟨hl, o, ho, fun e he hb => ?_⟩⟩
            have := hd e he hb
            rw [getD_lt (by rw [inv.size]; omega) false true]
            exact ih e.on this (by omega) (by omega)
        · refine .inl (fun i hi hin his => ih i ?_ hin his)
          by_cases e : i = k
          · subst e; exact (hk ⟨hin, his⟩).elim
          · omega
      · exact .inr ih
  rcases key n₀ with h2 | h2
  · exact (h (fun i hi his => h2 i hi hi his)).elim
  · exact h2
theorem wpAnyIn_more {Q : Exit → Act → World → Prop} : ∀ (fuel : Nat) (L : Array Bool) (a : Act) (w : World), wpAnyIn F n P md ops Q fuel L a w → wpAnyIn F n P md ops Q (fuel + 1) L a w
  | 0, _, _, _, h => ⟨fun _ => h.2, by rw [h.1]; simp⟩
  | fuel + 1, _, _, _, h => ⟨h.1, fun i hi => wpOpIn_mono (fun a' w' h' => wpAnyIn_more fuel _ a' w' h') (h.2 i hi)⟩
theorem wpAnyIn_much {Q : Exit → Act → World → Prop} (k : Nat) {fuel : Nat} {L : Array Bool} {a : Act} {w : World} (h : wpAnyIn F n P md ops Q fuel L a w) : wpAnyIn F n P md ops Q (k + fuel) L a w := by
  induction k with
  | zero => rw [Nat.zero_add]; exact h
  | succ k ih => rw [show k + 1 + fuel = k + fuel + 1 from by omega]; exact wpAnyIn_more _ _ _ _ ih

theorem wpAnyIn_upto_core {m n₀ rest : Nat} {Qq : Act → Prop} {Q : Exit → Act → World → Prop} (hro : F.round = none) (hok : UptoOk md ops m n₀)
    (hQ : ∀ a w, C w → Qq a → wpAnyIn F n P md ops Q rest (bitsTo ops.size n₀) a w) : ∀ (fuel : Nat) (L : Array Bool) (a : Act) (w : World), C w → PInv md ops m n₀ L →
      wpAnyQIn F n P md ops C Qq fuel (plusL ops.size n₀ L) a → wpAnyIn F n P md ops Q (fuel + rest) L a w := by
  intro fuel
  induction fuel with
  | zero =>
    intro L a w hC inv h
    have hall : ∀ i, i < n₀ → i < ops.size → L.getD i true = true := by
      by_cases hh : ∀ i, i < n₀ → i < ops.size → L.getD i true = true
      · exact hh
      · obtain ⟨i, hin, hi⟩ := inv.some hok hh
        have := inv.ready hi hin
        rw [h.1] at this
        cases this
    rw [inv.full hall, Nat.zero_add]
    exact hQ a w hC h.2
  | succ fuel ih =>
    intro L a w hC inv h
    by_cases hall : ∀ i, i < n₀ → i < ops.size → L.getD i true = true
    · have hnil : Region.ready md ops (plusL ops.size n₀ L) = [] := by
        rw [List.eq_nil_iff_forall_not_mem]
        intro i hi
        obtain ⟨h0, o, ho, _⟩ := mem_ready.1 hi
        have his := (Array.getElem?_eq_some_iff.1 ho).1
        rw [plus_getD i true his] at h0
        by_cases hin : i < n₀
        · rw [hall i hin his] at h0; cases h0
        · simp at h0; omega
      rw [inv.full hall]
      exact wpAnyIn_much _ (hQ a w hC (h.1 hnil))
    · obtain ⟨i0, hi0, hr0⟩ := inv.some hok hall
      rw [show fuel + 1 + rest = fuel + rest + 1 from by omega]
      refine ⟨(fun hnil => by rw [hnil] at hr0; cases hr0), fun i hi => ?_⟩
      have hin : i < n₀ := by
        rcases Nat.lt_or_ge i n₀ with h1 | h1
        · exact h1
        · exact (hall (inv.all hok hi h1)).elim
      refine wpOpIn_of_qOpIn (K := wpAnyQIn F n P md ops C Qq fuel ((plusL ops.size n₀ L).setIfInBounds i true)) hro hC (fun a' w' hw' hK => ?_) (h.2 i (inv.ready hi hin))
      exact ih _ a' w' hw' (inv.set hi hin) (by rw [plus_set inv.size]; exact hK)

/-- The lexical walk of a part of the region. -/
theorem wpAnyQIn_lexP {Q : Act → Prop} (hs : Region.noSelect ops = true) : ∀ (l : List Oper) (k : Nat) (listed : Array Bool) (a : Act), (∀ j, j < l.length → l[j]? = ops[k + j]?) →
    Region.lexFrom md ops l.length k listed = true → wpQuietIn F n P ops C Q l a → wpAnyQIn F n P md ops C Q l.length listed a
  | [], _, _, _, _, hB, h => ⟨by simpa [Region.lexFrom] using hB, h⟩
  | o :: l, k, listed, a, hl, hB, h => by
    have h0 : ops[k]? = some o := by simpa using (hl 0 (by simp)).symm
    simp only [List.length_cons, Region.lexFrom, Bool.and_eq_true] at hB
    obtain ⟨⟨hr, hf⟩, hB'⟩ := hB
    have hst : qOpIn F n P ops C k (wpQuietIn F n P ops C Q l) a := by unfold qOpIn; simp only [h0]; exact h
    obtain ⟨v, hy, hK⟩ := yieldsQuiet_of_qOpIn h0 hst
    exact wpAnyQIn_first h0 (Region.noSelect_spec hs) l.length listed a (Region.free_spec h0 hf) (by simpa using hr) hy
      (wpAnyQIn_lexP hs l (k + 1) _ _ (fun j hj => by have := hl (j + 1) (by simpa using hj); simpa [Nat.add_assoc, Nat.add_comm 1 j] using this) hB' hK)

theorem pinv_bits {m n₀ : Nat} (hm : m ≤ n₀) : PInv md ops m n₀ (bitsTo ops.size m) := by
  refine ⟨by simp [bitsTo], fun i hi his => ?_, fun t ht hts => ?_, fun j oj hoj hj hl => ?_⟩
  · unfold bitsTo; rw [getD_ofFn _ _ _ his]; simpa using hi
  · unfold bitsTo; rw [getD_ofFn _ _ _ hts]; simp; omega
  · have hjs := (Array.getElem?_eq_some_iff.1 hoj).1
    unfold bitsTo at hl
    rw [getD_ofFn _ _ _ hjs] at hl
    simp at hl
    omega

/-- ON FROM THE PLACE WHERE THE FIRST m HAVE COME UP, to the operation n₀, which all later ones wait for. -/
theorem wpAnyIn_upto {m n₀ rest fuel : Nat} {l : List Oper} {Q : Exit → Act → World → Prop} {a : Act} {w : World} (hro : F.round = none) (hm : m ≤ n₀) (hB : Region.uptoB md ops m n₀ = true) (hs : Region.noSelect ops = true)
    (hl : (ops.extract m n₀).toList = l) (hx : Region.lexFrom md ops l.length m (plusL ops.size n₀ (bitsTo ops.size m)) = true) (hf : fuel = l.length + rest) (hC : C w)
    (h : wpQuietIn F n P ops C (fun a' => ∀ w', C w' → wpAnyIn F n P md ops Q rest (bitsTo ops.size n₀) a' w') l a) : wpAnyIn F n P md ops Q fuel (bitsTo ops.size m) a w := by
  subst hf
  refine wpAnyIn_upto_core (Qq := fun a' => ∀ w', C w' → wpAnyIn F n P md ops Q rest (bitsTo ops.size n₀) a' w') hro (Region.uptoB_spec hB) (fun a' w' hw' h' => h' w' hw') _ _ _ _ hC (pinv_bits hm) ?_
  refine wpAnyQIn_lexP hs l m _ a (fun j hj => ?_) hx h
  subst hl
  simp only [Array.length_toList, Array.size_extract] at hj
  rw [Array.getElem?_toList, Array.getElem?_extract]
  rw [if_pos (by omega)]
/-- .. to the region's end. -/
theorem wpAnyIn_toEnd {m fuel : Nat} {l : List Oper} {Q : Exit → Act → World → Prop} {a : Act} {w : World} (hro : F.round = none) (hs : Region.noSelect ops = true)
    (hl : (ops.extract m ops.size).toList = l) (hx : Region.lexFrom md ops l.length m (bitsTo ops.size m) = true) (hf : fuel = l.length) (hC : C w)
    (h : wpQuietIn F n P ops C (fun a' => ∀ w', C w' → Q .normal a' w') l a) : wpAnyIn F n P md ops Q fuel (bitsTo ops.size m) a w := by
  subst hf
  refine wpAnyIn_of_quiet (Q := fun a' => ∀ w', C w' → Q .normal a' w') hro (fun _ w' hw' h' => h' w' hw') _ _ _ _ hC ?_
  refine wpAnyQIn_lexP hs l m _ a (fun j hj => ?_) hx h
  subst hl
  simp only [Array.length_toList, Array.size_extract] at hj
  rw [Array.getElem?_toList, Array.getElem?_extract]
  rw [if_pos (by omega)]
/-- FROM THE REGION's BEGINNING. -/
theorem wpIn_region_upto {id n₀ : Nat} {l : List Oper} {Q : Exit → Act → World → Prop} {a : Act} {w : World} (hro : F.round = none) (hm : P.follows .mixedOrders = true) (hB : Region.uptoB .any ops 0 n₀ = true) (hs : Region.noSelect ops = true)
    (hl : (ops.extract 0 n₀).toList = l) (hx : Region.lexFrom .any ops l.length 0 (plusL ops.size n₀ (bitsTo ops.size 0)) = true) (hC : C w.drew) (rest : Nat) (hf : ops.size = l.length + rest)
    (h : wpQuietIn F n P ops C (fun a' => ∀ w', C w' → wpAnyIn F n P .any ops Q rest (bitsTo ops.size n₀) a' w') l a) : (Code.region id ops true).wpIn F n P Q a w := by
  refine wpIn_region_any hm ?_
  have e : Array.replicate ops.size false = bitsTo ops.size 0 := by
    apply Array.ext_getElem?
    intro i
    unfold bitsTo
    by_cases hi : i < ops.size
    · simp [hi]
    · rw [Array.getElem?_eq_none (by simp; omega), Array.getElem?_eq_none (by simp; omega)]
  rw [e]
  exact wpAnyIn_upto (w := w.drew) hro (Nat.zero_le _) hB hs hl hx hf hC h
theorem take_extract (l0 : List Oper) (m n₀ : Nat) : (l0.toArray.extract m n₀).toList = (l0.drop m).take (n₀ - m) := by
  simp
/-- The same, the operations written out. -/
theorem wpIn_region_uptoL {id : Nat} {l0 : List Oper} {Q : Exit → Act → World → Prop} {a : Act} {w : World} (n₀ rest : Nat) (C : World → Prop) (hro : F.round = none) (hm : P.follows .mixedOrders = true) (hB : Region.uptoB .any l0.toArray 0 n₀ = true) (hs : Region.noSelect l0.toArray = true)
    (hx : Region.lexFrom .any l0.toArray n₀ 0 (plusL l0.toArray.size n₀ (bitsTo l0.toArray.size 0)) = true) (hC : C w.drew) (hf : Nat.beq l0.length (n₀ + rest) = true)
    (h : wpQuietIn F n P l0.toArray C (fun a' => ∀ w', C w' → wpAnyIn F n P .any l0.toArray Q rest (bitsTo l0.toArray.size n₀) a' w') (l0.take n₀) a) : (Code.region id l0.toArray true).wpIn F n P Q a w := by
  have hf := Nat.eq_of_beq_eq_true hf
  have e : (l0.take n₀).length = n₀ := by rw [List.length_take]; omega
  refine wpIn_region_upto (C := C) hro hm hB hs (take_extract l0 0 n₀) (by rw [List.drop_zero, Nat.sub_zero, e]; exact hx) hC rest (by rw [List.drop_zero, Nat.sub_zero, e]; simpa using hf) ?_
  rw [List.drop_zero, Nat.sub_zero]
  exact h
theorem wpAnyIn_uptoL {m : Nat} {l0 : List Oper} {fuel : Nat} {Q : Exit → Act → World → Prop} {a : Act} {w : World} (n₀ rest : Nat) (C : World → Prop) (hro : F.round = none) (hm : Nat.ble m n₀ = true) (hB : Region.uptoB md l0.toArray m n₀ = true) (hs : Region.noSelect l0.toArray = true)
    (hx : Region.lexFrom md l0.toArray (n₀ - m) m (plusL l0.toArray.size n₀ (bitsTo l0.toArray.size m)) = true) (hC : C w) (hf : fuel = (n₀ - m) + rest) (hz : Nat.ble n₀ l0.length = true)
    (h : wpQuietIn F n P l0.toArray C (fun a' => ∀ w', C w' → wpAnyIn F n P md l0.toArray Q rest (bitsTo l0.toArray.size n₀) a' w') ((l0.drop m).take (n₀ - m)) a) : wpAnyIn F n P md l0.toArray Q fuel (bitsTo l0.toArray.size m) a w := by
  have hm := Nat.le_of_ble_eq_true hm
  have hz := Nat.le_of_ble_eq_true hz
  have e : ((l0.drop m).take (n₀ - m)).length = n₀ - m := by rw [List.length_take, List.length_drop]; omega
  exact wpAnyIn_upto (C := C) (rest := rest) hro hm hB hs (take_extract l0 m n₀) (by rw [e]; exact hx) (by rw [e]; exact hf) hC h
theorem wpAnyIn_toEndL {m : Nat} {l0 : List Oper} {fuel : Nat} {Q : Exit → Act → World → Prop} {a : Act} {w : World} (C : World → Prop) (hro : F.round = none) (hs : Region.noSelect l0.toArray = true)
    (hx : Region.lexFrom md l0.toArray (l0.length - m) m (bitsTo l0.toArray.size m) = true) (hC : C w) (hf : Nat.beq (fuel + m) l0.length = true)
    (h : wpQuietIn F n P l0.toArray C (fun a' => ∀ w', C w' → Q .normal a' w') (l0.drop m) a) : wpAnyIn F n P md l0.toArray Q fuel (bitsTo l0.toArray.size m) a w := by
  have hf := Nat.eq_of_beq_eq_true hf
  refine wpAnyIn_toEnd (C := C) (l := l0.drop m) hro hs ?_ (by rw [List.length_drop]; exact hx) (by rw [List.length_drop]; omega) hC h
  rw [take_extract, List.take_of_length_le]
  rw [List.length_drop]
  simp
/-- The one operation that may come up. -/
theorem wpAnyIn_one {k fuel : Nat} {o : Oper} {Q : Exit → Act → World → Prop} {a : Act} {w : World} (hr : Region.ready md ops (bitsTo ops.size k) = [k]) (ho : ops[k]? = some o)
    (h : ∀ K' : Act → World → Prop, (∀ a w, wpAnyIn F n P md ops Q fuel (bitsTo ops.size (k + 1)) a w → K' a w) → if Region.wanted o (yielded ops a.tmps) = true then Oper.wpIn F n P o a w K' Q else (∀ f, o.about P w a.eval = some f → F.fn f) ∧ K' (a.put o.dst undef) w) :
    wpAnyIn F n P md ops Q (fuel + 1) (bitsTo ops.size k) a w := by
  have e : (bitsTo ops.size k).setIfInBounds k true = bitsTo ops.size (k + 1) := by
    apply Array.ext_getElem?
    intro i
    have hks := (Array.getElem?_eq_some_iff.1 ho).1
    unfold bitsTo
    by_cases hi : i < ops.size
    · by_cases hik : k = i
      · subst hik; simp [hi]
      · rw [Array.getElem?_setIfInBounds_ne hik]
        simp [hi]
        omega
    · rw [Array.getElem?_eq_none (by simp; omega), Array.getElem?_eq_none (by simp; omega)]
  refine wpAnyIn_all hr (by simp) ?_
  intro i hi
  simp at hi
  subst hi
  rw [e]
  exact wpOpIn_step ho h
end
end Go

/-! Arcs as keys of maps. -/
namespace Go.Proofs.PlMap
open Go Go.Maps Go.Proofs.PlNet

def arV (a : Ar) : Value := .agg #[.string a.f, .string a.t, .string a.w, .int .i64 a.n]
def arL (a : Ar) : Lit := .string (keyBytes [.string a.f.data.toList, .string a.t.data.toList, .string a.w.data.toList, .int .i64 a.n])
/-- An arc of a moderate size. -/
def okA (a : Ar) : Prop := a.f.size ≤ 100000 ∧ a.t.size ≤ 100000 ∧ a.w.size ≤ 100000 ∧ 0 ≤ a.n ∧ a.n ≤ 8000000
def arcKeys (P : Program) (k : TypeId) (K : Keyed P k) (hk : ∀ a, okA a → keyOf P k (arV a) = some (arL a)) : KeyBy P k Ar where
  val := arV
  lit := arL
  ok := okA
  keyed := K
  key := hk
  inj := fun x y hx hy e => by
    have h1 := hk x hx
    have h2 := hk y hy
    rw [e] at h1
    have := K.inj h1 h2
    unfold arV at this
    simp only [Value.agg.injEq, Array.mk.injEq, List.cons.injEq, Value.string.injEq, Value.int.injEq, true_and, and_true] at this
    exact Ar.ext' this.1 this.2.1 this.2.2.1 this.2.2.2
end Go.Proofs.PlMap
