/-
  The plain laws of layer 3 (geom): points and segments as integers, what each function computes, and what the seven statements say of it. No program in sight.
-/
import Derived.Test.YtpiocaomlifljaaPlain2
namespace Go.Proofs.PlGeom

structure Pt where
  x : Int
  y : Int
deriving DecidableEq

structure Sg where
  a : Pt
  b : Pt
deriving DecidableEq

/-- A point is near. -/
def nearB (p : Pt) : Bool := decide (-2097152 ≤ p.x ∧ p.x ≤ 2097152 ∧ -2097152 ≤ p.y ∧ p.y ≤ 2097152)
def nearL : List Pt → Bool
  | [] => true
  | p :: l => nearB p && nearL l
theorem nearB_iff (p : Pt) : nearB p = true ↔ (-2097152 ≤ p.x ∧ p.x ≤ 2097152 ∧ -2097152 ≤ p.y ∧ p.y ≤ 2097152) := by simp [nearB]

def cmpI (a b : Int) : Int := if a < b then -1 else if b < a then 1 else 0
theorem cmpI_cases (a b : Int) : (a < b ∧ cmpI a b = -1) ∨ (b < a ∧ cmpI a b = 1) ∨ (a = b ∧ cmpI a b = 0) := by unfold cmpI; split <;> (try split) <;> omega
def cmpP (a b : Pt) : Int := if cmpI a.x b.x ≠ 0 then cmpI a.x b.x else cmpI a.y b.y
def firstL : List (Int × Int) → Int
  | [] => 0
  | p :: l => if cmpI p.1 p.2 ≠ 0 then cmpI p.1 p.2 else firstL l
theorem firstL_two (a b c d : Int) : firstL [(a, b), (c, d)] = cmpP ⟨a, c⟩ ⟨b, d⟩ := by
  simp only [firstL, cmpP]
  split
  · rfl
  · split
    · rfl
    · rename_i h; exact (Decidable.not_not.mp h).symm

def cross (a b c : Pt) : Int := (b.x - a.x) * (c.y - a.y) - (b.y - a.y) * (c.x - a.x)
def orient (a b c : Pt) : Int := if nearL [a, b, c] then cmpI (cross a b c) 0 else 0
theorem prod_bd (n a b : Int) (h1 : -n ≤ a) (h2 : a ≤ n) (h3 : -n ≤ b) (h4 : b ≤ n) : -(n * n) ≤ a * b ∧ a * b ≤ n * n := by
  have e1 : 0 ≤ (n - a) * (n + b) := Int.mul_nonneg (by omega) (by omega)
  have e2 : 0 ≤ (n + a) * (n - b) := Int.mul_nonneg (by omega) (by omega)
  have e3 : 0 ≤ (n - a) * (n - b) := Int.mul_nonneg (by omega) (by omega)
  have e4 : 0 ≤ (n + a) * (n + b) := Int.mul_nonneg (by omega) (by omega)
  constructor <;> grind
theorem prod_near (a b : Int) (h1 : -4194304 ≤ a) (h2 : a ≤ 4194304) (h3 : -4194304 ≤ b) (h4 : b ≤ 4194304) : -17592186044416 ≤ a * b ∧ a * b ≤ 17592186044416 :=
  prod_bd 4194304 a b h1 h2 h3 h4

def dist (a b : Pt) : Int := if nearL [a, b] then (b.x - a.x) * (b.x - a.x) + (b.y - a.y) * (b.y - a.y) else 0
def sortS (s : Sg) : Sg := if 0 < cmpP s.a s.b then ⟨s.b, s.a⟩ else s
def onS (s : Sg) (p : Pt) : Bool := nearL [s.a, s.b, p] && (orient (sortS s).a (sortS s).b p == 0 && cmpP (sortS s).a p ≤ 0 && cmpP p (sortS s).b ≤ 0 && (decide ((sortS s).a ≠ (sortS s).b) || decide (p = (sortS s).a)))

/-- How a point and a segment meet. -/
def onP (p : Pt) (s : Sg) : Int := if onS s p then (if p = s.a ∨ p = s.b then 1 else 2) else 0
def lowP (s t : Sg) : Pt := if 0 < cmpP t.a s.a then t.a else s.a
def highP (s t : Sg) : Pt := if cmpP t.b s.b < 0 then t.b else s.b
def overC (c : Int) : Int := if c = -1 then 5 else if c = 0 then 1 else 0
def online (s t : Sg) : Int := if t.a = t.b then onP t.a s else if s.a = s.b then onP s.a t else overC (cmpP (lowP s t) (highP s t))
def crossC (a b c d : Int) : Int := if 0 < a * b ∨ 0 < c * d then 0 else if a * b < 0 ∧ c * d < 0 then 3 else if a * b = 0 ∧ c * d = 0 then 1 else 2
def meetIn (s t : Sg) : Int :=
  if s = t then 4
  else if s.a = s.b ∨ t.a = t.b ∨ (orient s.a s.b t.a = 0 ∧ orient s.a s.b t.b = 0) then online s t
  else crossC (orient s.a s.b t.a) (orient s.a s.b t.b) (orient t.a t.b s.a) (orient t.a t.b s.b)
def meets (s t : Sg) : Int := if nearL [s.a, s.b, t.a, t.b] then meetIn (sortS s) (sortS t) else 0
theorem cmpP_cases (a b : Pt) : cmpP a b = -1 ∨ cmpP a b = 0 ∨ cmpP a b = 1 := by
  unfold cmpP
  have h1 := cmpI_cases a.x b.x
  have h2 := cmpI_cases a.y b.y
  split <;> omega
end Go.Proofs.PlGeom

/-! The plain laws of roots. No program in sight. -/
namespace Go.Proofs.PlGeom

/-- The root, two bits of the number a step: root and rest behind k steps. -/
def rt (n : Nat) : Nat → Nat × Nat
  | 0 => (0, 0)
  | k + 1 =>
    if (rt n k).1 * 4 + 1 ≤ (rt n k).2 * 4 + n / 2 ^ (62 - 2 * k) % 4 then ((rt n k).1 * 2 + 1, (rt n k).2 * 4 + n / 2 ^ (62 - 2 * k) % 4 - ((rt n k).1 * 4 + 1))
    else ((rt n k).1 * 2, (rt n k).2 * 4 + n / 2 ^ (62 - 2 * k) % 4)

theorem rt_inv (n : Nat) (hn : n < 2 ^ 64) : ∀ k, k ≤ 32 → (rt n k).1 * (rt n k).1 + (rt n k).2 = n / 2 ^ (64 - 2 * k) ∧ (rt n k).2 ≤ 2 * (rt n k).1 := by
  intro k
  induction k with
  | zero => intro _; simp [rt]; omega
  | succ k ih =>
    intro hk
    obtain ⟨h1, h2⟩ := ih (by omega)
    have e : 64 - 2 * (k + 1) = 62 - 2 * k := by omega
    have e2 : n / 2 ^ (64 - 2 * k) = n / 2 ^ (62 - 2 * k) / 4 := by
      rw [Nat.div_div_eq_div_mul, show (4 : Nat) = 2 ^ 2 from rfl, ← Nat.pow_add]; congr 2; omega
    rw [e2] at h1
    rw [e]
    simp only [rt]
    generalize n / 2 ^ (62 - 2 * k) = N at *
    generalize (rt n k).1 = a at *
    generalize (rt n k).2 = b at *
    split
    · rename_i h
      refine ⟨?_, ?_⟩
      · show (a * 2 + 1) * (a * 2 + 1) + _ = N
        have : (a * 2 + 1) * (a * 2 + 1) = 4 * (a * a) + 4 * a + 1 := by grind
        omega
      · show _ ≤ 2 * (a * 2 + 1)
        simp only
        omega
    · rename_i h
      refine ⟨?_, ?_⟩
      · show (a * 2) * (a * 2) + _ = N
        have : (a * 2) * (a * 2) = 4 * (a * a) := by grind
        simp only
        omega
      · show b * 4 + N % 4 ≤ 2 * (a * 2)
        omega

theorem sq_lt (a : Nat) (h : a * a < 2 ^ 64) : a < 4294967296 := by
  rcases Nat.lt_or_ge a 4294967296 with h1 | h1
  · exact h1
  · have := Nat.mul_le_mul h1 h1
    omega

theorem rt_bd (n : Nat) (hn : n < 2 ^ 64) (k : Nat) (hk : k ≤ 32) : (rt n k).1 < 4294967296 ∧ (rt n k).2 ≤ 2 * (rt n k).1 := by
  obtain ⟨h1, h2⟩ := rt_inv n hn k hk
  have : n / 2 ^ (64 - 2 * k) ≤ n := Nat.div_le_self _ _
  exact ⟨sq_lt _ (by omega), h2⟩

def isq (n : Nat) : Nat := (rt n 32).1
theorem isq_spec (n : Nat) (hn : n < 2 ^ 64) : isq n * isq n ≤ n ∧ n < (isq n + 1) * (isq n + 1) := by
  obtain ⟨h1, h2⟩ := rt_inv n hn 32 (by omega)
  simp only [Nat.reduceMul, Nat.sub_self, Nat.pow_zero, Nat.div_one] at h1
  unfold isq
  have : ((rt n 32).1 + 1) * ((rt n 32).1 + 1) = (rt n 32).1 * (rt n 32).1 + 2 * (rt n 32).1 + 1 := by grind
  omega
theorem isq_unique (n a : Nat) (hn : n < 2 ^ 64) (h1 : a * a ≤ n) (h2 : n < (a + 1) * (a + 1)) : isq n = a := by
  obtain ⟨h3, h4⟩ := isq_spec n hn
  rcases Nat.lt_trichotomy (isq n) a with h | h | h
  · have := Nat.mul_le_mul (show isq n + 1 ≤ a from h) (show isq n + 1 ≤ a from h); omega
  · exact h
  · have := Nat.mul_le_mul (show a + 1 ≤ isq n from h) (show a + 1 ≤ isq n from h); omega
theorem isq_mono (m n : Nat) (hn : n < 2 ^ 64) (h : m ≤ n) : isq m ≤ isq n := by
  obtain ⟨h1, h2⟩ := isq_spec m (by omega)
  obtain ⟨h3, h4⟩ := isq_spec n hn
  rcases Nat.lt_or_ge (isq n) (isq m) with h5 | h5
  · have := Nat.mul_le_mul (show isq n + 1 ≤ isq m from h5) (show isq n + 1 ≤ isq m from h5); omega
  · exact h5
end Go.Proofs.PlGeom

/-! The arcs of a network as plain data (layer 16). No program in sight. -/
namespace Go.Proofs.PlNet
open Go Go.Proofs.PlLex Go.Proofs.PlGeom

structure Ar where
  f : ByteArray
  t : ByteArray
  w : ByteArray
  n : Int
theorem Ar.ext' {a b : Ar} (h1 : a.f = b.f) (h2 : a.t = b.t) (h3 : a.w = b.w) (h4 : a.n = b.n) : a = b := by
  cases a; cases b
  simp only at h1 h2 h3 h4
  subst h1 h2 h3 h4
  rfl
instance : DecidableEq Ar := fun a b =>
  if h : a.f = b.f ∧ a.t = b.t ∧ a.w = b.w ∧ a.n = b.n then isTrue (Ar.ext' h.1 h.2.1 h.2.2.1 h.2.2.2) else isFalse (fun e => h ⟨by rw [e], by rw [e], by rw [e], by rw [e]⟩)
def ptAt (l : List Ob) (s : ByteArray) : Pt := ⟨(nodeAt l s).1, (nodeAt l s).2⟩
def lenA (l : List Ob) (a b : ByteArray) : Int := max 1 (isq (dist (ptAt l a) (ptAt l b)).toNat : Int)
def arcsP (l : List Ob) (id : ByteArray) : List ByteArray → List Ar
  | a :: b :: r => ⟨a, b, id, lenA l a b⟩ :: ⟨b, a, id, lenA l a b⟩ :: arcsP l id (b :: r)
  | _ => []
def arcsO (l : List Ob) (o : Ob) : List Ar := if o.kind = 2 then arcsP l o.id ((wayAt l o.id).getD []) else []
def allArcs (l : List Ob) : List Ar := l.flatMap (arcsO l)
/-- Each once, in the order of the first ones. -/
def onceA : List Ar → List Ar → List Ar
  | acc, [] => acc
  | acc, a :: l => if a ∈ acc then onceA acc l else onceA (acc ++ [a]) l
def arcsL (l : List Ob) : List Ar := onceA [] (allArcs l)

theorem arcsP_snoc (l : List Ob) (id : ByteArray) (r : List ByteArray) : ∀ (i : Nat) (a b : ByteArray), r[i]? = some a → r[i + 1]? = some b → arcsP l id (r.take (i + 2)) = arcsP l id (r.take (i + 1)) ++ [⟨a, b, id, lenA l a b⟩, ⟨b, a, id, lenA l a b⟩] := by
  induction r with
  | nil => intro i a b h; simp at h
  | cons x r ih =>
    intro i a b h1 h2
    cases i with
    | zero =>
      cases r with
      | nil => simp at h2
      | cons y r =>
        simp at h1 h2
        subst h1 h2
        simp [arcsP]
    | succ i =>
      have h1' : r[i]? = some a := by simpa using h1
      have h2' : r[i + 1]? = some b := by simpa using h2
      have := ih i a b h1' h2'
      cases r with
      | nil => simp at h1'
      | cons y r =>
        simp only [List.take_succ_cons, arcsP] at this ⊢
        rw [this]
        rfl
theorem arcsP_pre (l : List Ob) (id : ByteArray) (r : List ByteArray) : ∀ (i : Nat), arcsP l id (r.take i) <+: arcsP l id r := by
  induction r with
  | nil => intro i; simp
  | cons x r ih =>
    intro i
    cases i with
    | zero => exact List.nil_prefix
    | succ i =>
      cases r with
      | nil => cases i <;> simp
      | cons y r =>
        cases i with
        | zero => exact List.nil_prefix
        | succ i =>
          have := ih (i + 1)
          simp only [List.take_succ_cons, arcsP] at this ⊢
          exact (List.prefix_cons_inj _).2 ((List.prefix_cons_inj _).2 this)
theorem allArcs_split (l : List Ob) (k : Nat) (h : k < l.length) : allArcs l = (l.take k).flatMap (arcsO l) ++ (arcsO l l[k] ++ (l.drop (k + 1)).flatMap (arcsO l)) := by
  unfold allArcs
  conv => lhs; rw [← List.take_append_drop k l, List.flatMap_append, List.drop_eq_getElem_cons h, List.flatMap_cons]
  rw [← List.drop_eq_getElem_cons h, List.take_append_drop]
theorem onceA_snoc (acc l : List Ar) (a : Ar) : onceA acc (l ++ [a]) = if a ∈ onceA acc l then onceA acc l else onceA acc l ++ [a] := by
  induction l generalizing acc with
  | nil =>
    by_cases h : a ∈ acc <;> simp [onceA, h]
  | cons x l ih =>
    simp only [List.cons_append, onceA]
    by_cases h : x ∈ acc
    · simp only [h, if_true]; exact ih acc
    · simp only [h, if_false]; exact ih _
end Go.Proofs.PlNet
