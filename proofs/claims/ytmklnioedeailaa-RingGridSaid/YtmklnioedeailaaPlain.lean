/-
  The plain laws of layer 3 (geom): points and segments as integers, what each function computes, and what the seven statements say of it. No program in sight.
-/
namespace Go.Proofs.PlGeom

structure Pt where
  x : Int
  y : Int
deriving DecidableEq

structure Sg where
  a : Pt
  b : Pt
deriving DecidableEq

/-- A point is near. -/
def nearB (p : Pt) : Bool := decide (-2097152 ≤ p.x ∧ p.x ≤ 2097152 ∧ -2097152 ≤ p.y ∧ p.y ≤ 2097152)
def nearL : List Pt → Bool
  | [] => true
  | p :: l => nearB p && nearL l
theorem nearB_iff (p : Pt) : nearB p = true ↔ (-2097152 ≤ p.x ∧ p.x ≤ 2097152 ∧ -2097152 ≤ p.y ∧ p.y ≤ 2097152) := by simp [nearB]

def cmpI (a b : Int) : Int := if a < b then -1 else if b < a then 1 else 0
theorem cmpI_cases (a b : Int) : (a < b ∧ cmpI a b = -1) ∨ (b < a ∧ cmpI a b = 1) ∨ (a = b ∧ cmpI a b = 0) := by unfold cmpI; split <;> (try split) <;> omega
def cmpP (a b : Pt) : Int := if cmpI a.x b.x ≠ 0 then cmpI a.x b.x else cmpI a.y b.y
def firstL : List (Int × Int) → Int
  | [] => 0
  | p :: l => if cmpI p.1 p.2 ≠ 0 then cmpI p.1 p.2 else firstL l
theorem firstL_two (a b c d : Int) : firstL [(a, b), (c, d)] = cmpP ⟨a, c⟩ ⟨b, d⟩ := by
  simp only [firstL, cmpP]
  split
  · rfl
  · split
    · rfl
    · rename_i h; exact (Decidable.not_not.mp h).symm

def cross (a b c : Pt) : Int := (b.x - a.x) * (c.y - a.y) - (b.y - a.y) * (c.x - a.x)
def orient (a b c : Pt) : Int := if nearL [a, b, c] then cmpI (cross a b c) 0 else 0
theorem prod_bd (n a b : Int) (h1 : -n ≤ a) (h2 : a ≤ n) (h3 : -n ≤ b) (h4 : b ≤ n) : -(n * n) ≤ a * b ∧ a * b ≤ n * n := by
  have e1 : 0 ≤ (n - a) * (n + b) := Int.mul_nonneg (by omega) (by omega)
  have e2 : 0 ≤ (n + a) * (n - b) := Int.mul_nonneg (by omega) (by omega)
  have e3 : 0 ≤ (n - a) * (n - b) := Int.mul_nonneg (by omega) (by omega)
  have e4 : 0 ≤ (n + a) * (n + b) := Int.mul_nonneg (by omega) (by omega)
  constructor <;> grind
theorem prod_near (a b : Int) (h1 : -4194304 ≤ a) (h2 : a ≤ 4194304) (h3 : -4194304 ≤ b) (h4 : b ≤ 4194304) : -17592186044416 ≤ a * b ∧ a * b ≤ 17592186044416 :=
  prod_bd 4194304 a b h1 h2 h3 h4

def dist (a b : Pt) : Int := if nearL [a, b] then (b.x - a.x) * (b.x - a.x) + (b.y - a.y) * (b.y - a.y) else 0
def sortS (s : Sg) : Sg := if 0 < cmpP s.a s.b then ⟨s.b, s.a⟩ else s
def onS (s : Sg) (p : Pt) : Bool := nearL [s.a, s.b, p] && (orient (sortS s).a (sortS s).b p == 0 && cmpP (sortS s).a p ≤ 0 && cmpP p (sortS s).b ≤ 0 && (decide ((sortS s).a ≠ (sortS s).b) || decide (p = (sortS s).a)))

/-- How a point and a segment meet. -/
def onP (p : Pt) (s : Sg) : Int := if onS s p then (if p = s.a ∨ p = s.b then 1 else 2) else 0
def lowP (s t : Sg) : Pt := if 0 < cmpP t.a s.a then t.a else s.a
def highP (s t : Sg) : Pt := if cmpP t.b s.b < 0 then t.b else s.b
def overC (c : Int) : Int := if c = -1 then 5 else if c = 0 then 1 else 0
def online (s t : Sg) : Int := if t.a = t.b then onP t.a s else if s.a = s.b then onP s.a t else overC (cmpP (lowP s t) (highP s t))
def crossC (a b c d : Int) : Int := if 0 < a * b ∨ 0 < c * d then 0 else if a * b < 0 ∧ c * d < 0 then 3 else if a * b = 0 ∧ c * d = 0 then 1 else 2
def meetIn (s t : Sg) : Int :=
  if s = t then 4
  else if s.a = s.b ∨ t.a = t.b ∨ (orient s.a s.b t.a = 0 ∧ orient s.a s.b t.b = 0) then online s t
  else crossC (orient s.a s.b t.a) (orient s.a s.b t.b) (orient t.a t.b s.a) (orient t.a t.b s.b)
def meets (s t : Sg) : Int := if nearL [s.a, s.b, t.a, t.b] then meetIn (sortS s) (sortS t) else 0
theorem cmpP_cases (a b : Pt) : cmpP a b = -1 ∨ cmpP a b = 0 ∨ cmpP a b = 1 := by
  unfold cmpP
  have h1 := cmpI_cases a.x b.x
  have h2 := cmpI_cases a.y b.y
  split <;> omega
end Go.Proofs.PlGeom
