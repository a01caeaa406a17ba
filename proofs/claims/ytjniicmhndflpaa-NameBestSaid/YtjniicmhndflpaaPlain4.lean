/-
  The best name in plain Lean: which it is, and what the languages asked for change.
-/
import Derived.Test.YtjniicmhndflpaaPlain3
namespace Go.Proofs.PlName
open Go.Proofs.PlLex

/-! The order of strings. -/
theorem less_irrefl (a : List UInt8) : Go.Op.bytesLess a a = false := by
  induction a with
  | nil => rfl
  | cons c a ih => simp [Go.Op.bytesLess, ih]
theorem less_trans {a b c : List UInt8} (h1 : Go.Op.bytesLess a b = true) (h2 : Go.Op.bytesLess b c = true) : Go.Op.bytesLess a c = true := by
  induction a generalizing b c with
  | nil => cases c with
    | nil => cases b <;> simp [Go.Op.bytesLess] at h2
    | cons z c => rfl
  | cons x a ih => cases b with
    | nil => simp [Go.Op.bytesLess] at h1
    | cons y b => cases c with
      | nil => simp [Go.Op.bytesLess] at h2
      | cons z c =>
        simp only [Go.Op.bytesLess, Bool.or_eq_true, decide_eq_true_eq, Bool.and_eq_true, beq_iff_eq] at h1 h2 ⊢
        rcases h1 with h1 | ⟨rfl, h1⟩
        · rcases h2 with h2 | ⟨rfl, h2⟩
          · exact .inl (UInt8.lt_trans h1 h2)
          · exact .inl h1
        · rcases h2 with h2 | ⟨rfl, h2⟩
          · exact .inl h2
          · exact .inr ⟨rfl, ih h1 h2⟩
theorem less_tri {a b : List UInt8} (h1 : Go.Op.bytesLess a b = false) (h2 : a ≠ b) : Go.Op.bytesLess b a = true := by
  induction a generalizing b with
  | nil => cases b with
    | nil => exact (h2 rfl).elim
    | cons y b => simp [Go.Op.bytesLess] at h1
  | cons x a ih => cases b with
    | nil => rfl
    | cons y b =>
      simp only [Go.Op.bytesLess, Bool.or_eq_false_iff, decide_eq_false_iff_not, Bool.and_eq_false_iff, beq_eq_false_iff_ne] at h1
      simp only [Go.Op.bytesLess, Bool.or_eq_true, decide_eq_true_eq, Bool.and_eq_true, beq_iff_eq]
      by_cases e : x = y
      · subst e
        right
        refine ⟨rfl, ih ?_ (fun e => h2 (by rw [e]))⟩
        rcases h1.2 with h | h
        · exact (h rfl).elim
        · exact h
      · left
        rcases UInt8.lt_or_le y x with h | h
        · exact h
        · rcases UInt8.lt_or_eq_of_le h with h | h
          · exact (h1.1 h).elim
          · exact (e h).elim
theorem less_asymm {a b : List UInt8} (h : Go.Op.bytesLess a b = true) : Go.Op.bytesLess b a = false ∧ a ≠ b := by
  refine ⟨?_, ?_⟩
  · cases e : Go.Op.bytesLess b a with
    | false => rfl
    | true => have := less_trans h e; rw [less_irrefl] at this; cases this
  · rintro rfl
    rw [less_irrefl] at h; cases h
theorem less_pre (p a b : List UInt8) : Go.Op.bytesLess (p ++ a) (p ++ b) = Go.Op.bytesLess a b := by
  induction p with
  | nil => rfl
  | cons c p ih => simp [Go.Op.bytesLess, ih]

/-! Keys increase. -/
def lessK (a b : Tg) : Prop := Go.Op.bytesLess a.k.toList b.k.toList = true
theorem tagL_incr (l : List Tg) (last : ByteArray) (h : tagL last l = true) : l.Pairwise lessK ∧ ∀ t ∈ l, Go.Op.bytesLess last.toList t.k.toList = true := by
  induction l generalizing last with
  | nil => exact ⟨.nil, by intro t ht; cases ht⟩
  | cons t l ih =>
    simp only [tagL, Bool.and_eq_true, Bool.not_eq_true'] at h
    obtain ⟨⟨⟨⟨⟨_, h1⟩, h2⟩, _⟩, _⟩, h3⟩ := h
    obtain ⟨i1, i2⟩ := ih t.k h3
    have hl : Go.Op.bytesLess last.toList t.k.toList = true := less_tri h1 (by intro e; rw [e] at h2; simp at h2)
    refine ⟨List.pairwise_cons.2 ⟨i2, i1⟩, fun u hu => ?_⟩
    rcases List.mem_cons.1 hu with rfl | hu
    · exact hl
    · exact less_trans hl (i2 u hu)
theorem tags_incr {l : List Tg} (h : tagsB l = true) : l.Pairwise lessK := by
  unfold tagsB at h
  simp only [Bool.and_eq_true] at h
  exact (tagL_incr l _ h.1).1
theorem names_incr {l : List Tg} (h : tagsB l = true) : (namesL l).Pairwise lessK := (tags_incr h).filter _
theorem names_lang {l : List Tg} {t : Tg} (h : t ∈ namesL l) : t ∈ l ∧ langB t.k.data.toList = true := List.mem_filter.1 h

/-! Languages increase. -/
theorem lang_split (k : L) (h : langB k = true) (hn : ¬ k = nameB) : k = namePre ++ langR k ∧ langR k ≠ [] := by
  obtain ⟨p1, p2⟩ := lang_parts k hn
  rw [p2 h]
  rw [p1] at h
  simp only [Bool.and_eq_true, decide_eq_true_eq, beq_iff_eq] at h
  obtain ⟨⟨⟨h1, _⟩, h2⟩, _⟩ := h
  refine ⟨?_, ?_⟩
  · rw [← h2, List.take_append_drop]
  · intro e
    have := congrArg List.length e
    rw [List.length_drop] at this
    simp at this
    omega
theorem lang_less {a b : L} (h1 : langB a = true) (h2 : langB b = true) (h : Go.Op.bytesLess a b = true) : Go.Op.bytesLess (langR a) (langR b) = true := by
  by_cases ha : a = nameB
  · have hb : ¬ b = nameB := by
      rintro rfl
      rw [ha, less_irrefl] at h
      cases h
    obtain ⟨_, hne⟩ := lang_split b h2 hb
    have : langR a = [] := by unfold langR; rw [if_pos ha]
    rw [this]
    cases e : langR b with
    | nil => exact (hne e).elim
    | cons c r => rfl
  · obtain ⟨ea, _⟩ := lang_split a h1 ha
    by_cases hb : b = nameB
    · rw [ea, hb] at h
      have h9 : Go.Op.bytesLess (nameB ++ ([95] ++ langR a)) (nameB ++ []) = true := h
      rw [less_pre] at h9
      simp [Go.Op.bytesLess] at h9
    · obtain ⟨eb, _⟩ := lang_split b h2 hb
      rw [ea, eb, less_pre] at h
      exact h
theorem langO_list (t : Tg) : (langO t).toList = langR t.k.data.toList := by rw [ByteArray.toList_eq]; rfl
def lessO (a b : ByteArray) : Prop := Go.Op.bytesLess a.toList b.toList = true
theorem own_incr {l : List Tg} (h : tagsB l = true) : ((namesL l).map langO).Pairwise lessO := by
  rw [List.pairwise_map]
  refine (names_incr h).imp_of_mem ?_
  intro a b ha hb hl
  unfold lessO
  rw [langO_list, langO_list]
  refine lang_less (names_lang ha).2 (names_lang hb).2 ?_
  unfold lessK at hl
  rw [ByteArray.toList_eq, ByteArray.toList_eq] at hl
  exact hl
theorem own_next {l : List Tg} (h : tagsB l = true) (i : Nat) (hi : i + 1 < ((namesL l).map langO).length) : Go.Op.bytesLess (((namesL l).map langO)[i]'(by omega)).toList (((namesL l).map langO)[i + 1]).toList = true :=
  List.pairwise_iff_getElem.1 (own_incr h) i (i + 1) (by omega) hi (by omega)
theorem bytes_ext {a b : ByteArray} (h : a.toList = b.toList) : a = b := (Go.Lib.bytes_beq_iff a b).1 (by rw [h]; exact beq_self_eq_true _)
/-- Two name tags in one language are one. -/
theorem own_inj {l : List Tg} (h : tagsB l = true) {t u : Tg} (ht : t ∈ namesL l) (hu : u ∈ namesL l) (e : langO t = langO u) : t = u := by
  obtain ⟨i, hi, e1⟩ := List.mem_iff_getElem.1 ht
  obtain ⟨j, hj, e2⟩ := List.mem_iff_getElem.1 hu
  have hp := own_incr h
  rw [List.pairwise_map] at hp
  have hp := List.pairwise_iff_getElem.1 hp
  rcases Nat.lt_trichotomy i j with g | g | g
  · have := hp i j hi hj g
    unfold lessO at this
    rw [e1, e2, e, less_irrefl] at this
    cases this
  · subst g
    rw [← e1, ← e2]
  · have := hp j i hj hi g
    unfold lessO at this
    rw [e1, e2, e, less_irrefl] at this
    cases this

/-! The least place. -/
theorem fold_min (L : List ByteArray) (l : List Tg) : ∀ st : BsT, (l.foldl (bestF L) st = st ∧ ∀ u ∈ l, st.p ≤ placeS L (langO u)) ∨
    (∃ t ∈ l, l.foldl (bestF L) st = ⟨t.k, t.v, placeS L (langO t)⟩ ∧ placeS L (langO t) < st.p ∧ ∀ u ∈ l, placeS L (langO t) ≤ placeS L (langO u)) := by
  induction l with
  | nil => intro st; exact .inl ⟨rfl, by intro u hu; cases hu⟩
  | cons x l ih =>
    intro st
    rw [List.foldl_cons]
    by_cases hx : placeS L (langO x) < st.p
    · have e : bestF L st x = ⟨x.k, x.v, placeS L (langO x)⟩ := by unfold bestF; rw [if_pos hx]
      rw [e]
      rcases ih ⟨x.k, x.v, placeS L (langO x)⟩ with ⟨h1, h2⟩ | ⟨t, ht, h1, h2, h3⟩
      · refine .inr ⟨x, List.mem_cons_self, h1, hx, fun u hu => ?_⟩
        rcases List.mem_cons.1 hu with rfl | hu
        · exact Int.le_refl _
        · exact h2 u hu
      · have h2' : placeS L (langO t) < placeS L (langO x) := h2
        refine .inr ⟨t, List.mem_cons_of_mem _ ht, h1, by omega, fun u hu => ?_⟩
        rcases List.mem_cons.1 hu with rfl | hu
        · omega
        · exact h3 u hu
    · have e : bestF L st x = st := by unfold bestF; rw [if_neg hx]
      rw [e]
      rcases ih st with ⟨h1, h2⟩ | ⟨t, ht, h1, h2, h3⟩
      · refine .inl ⟨h1, fun u hu => ?_⟩
        rcases List.mem_cons.1 hu with rfl | hu
        · omega
        · exact h2 u hu
      · refine .inr ⟨t, List.mem_cons_of_mem _ ht, h1, h2, fun u hu => ?_⟩
        rcases List.mem_cons.1 hu with rfl | hu
        · omega
        · exact h3 u hu
theorem best_min (L : List ByteArray) (l : List Tg) (h : l ≠ []) : ∃ t ∈ l, bestL L l = ⟨t.k, t.v, placeS L (langO t)⟩ ∧ ∀ u ∈ l, placeS L (langO t) ≤ placeS L (langO u) := by
  rcases fold_min L l ⟨⟨#[]⟩, ⟨#[]⟩, (L.length : Int) + 2⟩ with ⟨_, h2⟩ | ⟨t, ht, h1, _, h3⟩
  · cases l with
    | nil => exact (h rfl).elim
    | cons x l =>
      have := h2 x List.mem_cons_self
      have := (place_bd L (langO x)).2
      simp only at *
      omega
  · exact ⟨t, ht, h1, h3⟩
theorem idx_one (x s : ByteArray) : Go.Lib.idxOfS [x] s = if x = s then 0 else -1 := rfl
theorem place_one_zero (x s : ByteArray) (h : placeS [x] s ≤ 0) : s = x := by
  unfold placeS at h
  rw [idx_one] at h
  by_cases e : x = s
  · exact e.symm
  · rw [if_neg e, if_neg (by omega)] at h
    simp only [List.length_cons, List.length_nil] at h
    split at h <;> omega
theorem place_one_self (x : ByteArray) : placeS [x] x = 0 := by
  unfold placeS
  rw [idx_one, if_pos rfl, if_pos (by omega)]
/-- A language of one's own, asked for alone, is the best name's. -/
theorem best_own {l : List Tg} {x : ByteArray} (hx : x ∈ (namesL l).map langO) : ∃ t ∈ namesL l, bestL [x] (namesL l) = ⟨t.k, t.v, placeS [x] (langO t)⟩ ∧ langO t = x := by
  obtain ⟨u, hu, rfl⟩ := List.mem_map.1 hx
  obtain ⟨t, ht, h1, h2⟩ := best_min [langO u] (namesL l) (by intro e; rw [e] at hu; cases hu)
  refine ⟨t, ht, h1, place_one_zero _ _ ?_⟩
  have := h2 u hu
  rw [place_one_self] at this
  exact this
theorem lang_key {l : List Tg} {t : Tg} (ht : t ∈ namesL l) : langB t.k.data.toList = true ∧ (⟨(langX t.k.data.toList).toArray⟩ : ByteArray) = langO t := by
  have h := (names_lang ht).2
  refine ⟨h, ?_⟩
  unfold langX
  rw [if_pos h]
  rfl

/-! A language that is not there. -/
theorem fold_shift (L M : List ByteArray) (l : List Tg) (h : ∀ u ∈ l, placeS L (langO u) = placeS M (langO u) + 1) : ∀ st su : BsT, st.k = su.k → st.v = su.v → st.p = su.p + 1 → (l.foldl (bestF L) st).k = (l.foldl (bestF M) su).k ∧ (l.foldl (bestF L) st).v = (l.foldl (bestF M) su).v := by
  induction l with
  | nil => intro st su h1 h2 _; exact ⟨h1, h2⟩
  | cons x l ih =>
    intro st su h1 h2 h3
    rw [List.foldl_cons, List.foldl_cons]
    have hx := h x List.mem_cons_self
    have ih := ih (fun u hu => h u (List.mem_cons_of_mem _ hu))
    unfold bestF
    by_cases g : placeS M (langO x) < su.p
    · rw [if_pos g, if_pos (by omega)]
      exact ih _ _ rfl rfl hx
    · rw [if_neg g, if_neg (by omega)]
      exact ih _ _ h1 h2 h3
theorem best_other (l : List Tg) (x : ByteArray) (hx : x ∉ l.map langO) : (bestL [x] l).k = (bestL [] l).k ∧ (bestL [x] l).v = (bestL [] l).v := by
  refine fold_shift [x] [] l (fun u hu => ?_) _ _ rfl rfl (by simp only [List.length_cons, List.length_nil]; omega)
  have hne : ¬ x = langO u := by rintro rfl; exact hx (List.mem_map_of_mem hu)
  have e0 : Go.Lib.idxOfS [] (langO u) = -1 := rfl
  have z : ¬ (0 : Int) ≤ -1 := by omega
  unfold placeS
  simp only [idx_one, if_neg hne, e0, if_neg z, List.length_cons, List.length_nil]
  split <;> omega
theorem hasS_iff (s : ByteArray) (l : List ByteArray) : hasS s l = true ↔ s ∈ l := by
  induction l with
  | nil => simp [hasS]
  | cons x l ih =>
    simp only [hasS, Bool.or_eq_true, ih, List.mem_cons]
    rw [Go.Lib.bytes_beq_iff]
    constructor
    · rintro (h | h)
      · exact .inl h.symm
      · exact .inr h
    · rintro (h | h)
      · exact .inl h.symm
      · exact .inr h

/-! The best name's key, its value, more languages. -/
theorem getT_of {l : List Tg} (h : l.Pairwise lessK) {t : Tg} (ht : t ∈ l) : getT t.k l = some t.v := by
  induction l with
  | nil => cases ht
  | cons x l ih =>
    obtain ⟨h1, h2⟩ := List.pairwise_cons.1 h
    unfold getT
    rcases List.mem_cons.1 ht with rfl | ht
    · rw [if_pos (beq_self_eq_true _)]
    · rw [if_neg, ih h2 ht]
      intro e
      have := h1 t ht
      unfold lessK at this
      rw [beq_iff_eq.1 e, less_irrefl] at this
      cases this
theorem lang_ne {k : L} (h : langB k = true) : k ≠ [] := by
  rintro rfl
  exact absurd h (by decide)
theorem idxFrom_shift (s : ByteArray) (l : List ByteArray) : ∀ i, Go.Lib.idxFromS l s i = if Go.Lib.idxFromS l s 0 < 0 then -1 else Go.Lib.idxFromS l s 0 + i := by
  have gen : ∀ (l : List ByteArray) (i : Nat), Go.Lib.idxFromS l s i = -1 ∧ (∀ j, Go.Lib.idxFromS l s j = -1) ∨ ∃ k : Nat, ∀ j : Nat, Go.Lib.idxFromS l s j = (k : Int) + j := by
    intro l
    induction l with
    | nil => intro i; exact .inl ⟨rfl, fun _ => rfl⟩
    | cons z l ih =>
      intro i
      by_cases e : z = s
      · right
        refine ⟨0, fun j => ?_⟩
        unfold Go.Lib.idxFromS
        rw [if_pos e]
        simp
      · rcases ih i with ⟨_, h⟩ | ⟨k, h⟩
        · left
          have : ∀ j, Go.Lib.idxFromS (z :: l) s j = -1 := fun j => by unfold Go.Lib.idxFromS; rw [if_neg e]; exact h _
          exact ⟨this i, this⟩
        · right
          refine ⟨k + 1, fun j => ?_⟩
          unfold Go.Lib.idxFromS
          rw [if_neg e, h]
          simp only [Int.natCast_add, Int.natCast_one]
          omega
  intro i
  rcases gen l 0 with ⟨h0, h⟩ | ⟨k, h⟩
  · rw [h i, h 0]; simp
  · rw [h i, h 0]
    rw [if_neg (by simp only [Int.natCast_zero]; omega)]
    simp
theorem idx_cons (z s : ByteArray) (l : List ByteArray) : Go.Lib.idxOfS (z :: l) s = if z = s then 0 else if Go.Lib.idxOfS l s < 0 then -1 else Go.Lib.idxOfS l s + 1 := by
  unfold Go.Lib.idxOfS
  conv => lhs; unfold Go.Lib.idxFromS
  by_cases e : z = s
  · rw [if_pos e, if_pos e]; rfl
  · rw [if_neg e, if_neg e, idxFrom_shift]
    rfl
theorem idx_snoc (L : List ByteArray) (x s : ByteArray) : Go.Lib.idxOfS (L ++ [x]) s = if 0 ≤ Go.Lib.idxOfS L s then Go.Lib.idxOfS L s else if x = s then (L.length : Int) else -1 := by
  induction L with
  | nil =>
    rw [List.nil_append, idx_one]
    rfl
  | cons z L ih =>
    rw [List.cons_append, idx_cons, idx_cons, ih]
    by_cases e : z = s
    · simp [e]
    · simp only [if_neg e]
      have := idx_lt L s
      by_cases g : 0 ≤ Go.Lib.idxOfS L s
      · rw [if_pos g, if_neg (by omega), if_pos (by omega)]
      · rw [if_neg g, if_pos (show Go.Lib.idxOfS L s < 0 by omega), if_neg (show ¬ (0 : Int) ≤ -1 by omega)]
        by_cases e2 : x = s
        · simp only [if_pos e2, List.length_cons]
          rw [if_neg (by omega)]
          omega
        · simp only [if_neg e2]
          rw [if_pos (by omega)]
theorem idx_mem (L : List ByteArray) (s : ByteArray) : 0 ≤ Go.Lib.idxOfS L s ↔ s ∈ L := Go.Lib.idxOfS_nonneg_iff L s
theorem idx_get (L : List ByteArray) (s : ByteArray) (h : s ∈ L) : ∃ i : Nat, Go.Lib.idxOfS L s = i ∧ L[i]? = some s ∧ ∀ j, j < i → L[j]? ≠ some s := by
  induction L with
  | nil => cases h
  | cons z L ih =>
    rw [idx_cons]
    by_cases e : z = s
    · exact ⟨0, by rw [if_pos e]; rfl, by simp [e], by intro j hj; omega⟩
    · rcases List.mem_cons.1 h with h | h
      · exact (e h.symm).elim
      · obtain ⟨i, h1, h2, h3⟩ := ih h
        refine ⟨i + 1, ?_, by simpa using h2, fun j hj => ?_⟩
        · rw [if_neg e, h1, if_neg (by omega)]
          simp
        · cases j with
          | zero => simp [e]
          | succ j => simpa using h3 j (by omega)
theorem place_in (L : List ByteArray) (s : ByteArray) (h : s ∈ L) : placeS L s = Go.Lib.idxOfS L s := by unfold placeS; rw [if_pos ((idx_mem L s).2 h)]
/-- If the best name is in a language that was asked for: a further one changes nothing. -/
theorem best_more {l : List Tg} (hv : tagsB l = true) (L : List ByteArray) (x : ByteArray) {t : Tg} (ht : t ∈ namesL l) (hm : ∀ u ∈ namesL l, placeS L (langO t) ≤ placeS L (langO u)) (hin : langO t ∈ L) :
    (bestL (L ++ [x]) (namesL l)).k = t.k ∧ (bestL (L ++ [x]) (namesL l)).v = t.v := by
  obtain ⟨u, hu, h1, h2⟩ := best_min (L ++ [x]) (namesL l) (by intro e; rw [e] at ht; cases ht)
  have hp : ∀ s : ByteArray, placeS (L ++ [x]) s = placeS L s ∧ placeS L s < L.length ∨ (L.length : Int) ≤ placeS (L ++ [x]) s ∧ (L.length : Int) ≤ placeS L s := by
    intro s
    have hl := idx_lt L s
    unfold placeS
    rw [idx_snoc]
    by_cases g : 0 ≤ Go.Lib.idxOfS L s
    · left
      rw [if_pos g, if_pos g]
      simp only [if_pos g]
      exact ⟨trivial, hl.2⟩
    · right
      simp only [if_neg g]
      refine ⟨?_, by split <;> omega⟩
      rw [List.length_append]
      simp only [List.length_cons, List.length_nil]
      by_cases e : x = s
      · rw [if_pos e, if_pos (by omega)]; omega
      · rw [if_neg e, if_neg (by omega)]
        split <;> simp <;> omega
  have hlt : placeS L (langO t) < L.length := by rw [place_in L _ hin]; exact (idx_lt L _).2
  have ht2 := h2 t ht
  have hu2 := hm u hu
  have hut : langO u = langO t := by
    rcases hp (langO t) with ⟨e1, _⟩ | ⟨_, e2⟩
    · rcases hp (langO u) with ⟨f1, f2⟩ | ⟨f1, _⟩
      · have heq : placeS L (langO u) = placeS L (langO t) := by omega
        have hul : langO u ∈ L := by
          rw [← idx_mem]
          unfold placeS at f2
          by_cases g : 0 ≤ Go.Lib.idxOfS L (langO u)
          · exact g
          · rw [if_neg g] at f2
            split at f2 <;> omega
        rw [place_in L _ hul, place_in L _ hin] at heq
        obtain ⟨i, i1, i2, _⟩ := idx_get L _ hul
        obtain ⟨j, j1, j2, _⟩ := idx_get L _ hin
        have : i = j := by omega
        subst this
        rw [i2] at j2
        exact Option.some.inj j2
      · omega
    · omega
  have := own_inj hv hu ht hut
  subst this
  rw [h1]
  exact ⟨rfl, rfl⟩
/-- The languages before its own are missing. -/
theorem best_before {l : List Tg} (L : List ByteArray) {t : Tg} (hm : ∀ u ∈ namesL l, placeS L (langO t) ≤ placeS L (langO u)) (hin : langO t ∈ L) (i : Nat) (hi : i < L.length) (hne : ∀ j, j ≤ i → L[j]? ≠ some (langO t)) : L[i] ∉ (namesL l).map langO := by
  intro h
  obtain ⟨u, hu, e⟩ := List.mem_map.1 h
  have hul : langO u ∈ L := by rw [e]; exact List.getElem_mem hi
  have := hm u hu
  rw [place_in L _ hul, place_in L _ hin] at this
  obtain ⟨a, a1, a2, a3⟩ := idx_get L _ hul
  obtain ⟨b, b1, b2, _⟩ := idx_get L _ hin
  have hai : a ≤ i := by
    rcases Nat.lt_or_ge i a with g | g
    · exact (a3 i g (by rw [e, List.getElem?_eq_getElem hi])).elim
    · exact g
  have hib : i < b := by
    rcases Nat.lt_or_ge i b with g | g
    · exact g
    · exact (hne b g b2).elim
  omega
end Go.Proofs.PlName
