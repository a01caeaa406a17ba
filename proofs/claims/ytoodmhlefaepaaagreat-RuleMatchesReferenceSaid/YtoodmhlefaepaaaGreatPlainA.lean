/-
  Rules as plain data: when they are valid, how they are written, how they are read from tokens. No program in sight.
-/
import Derived.Test.YtoodmhlefaepaaaGreatPlain2
namespace Go.Proofs.PlRule
open Go Go.Proofs.PlLex

abbrev BA := ByteArray
def ba (l : L) : BA := ⟨l.toArray⟩
def tx (s : BA) : L := s.data.toList
theorem ba_tx (s : BA) : ba (tx s) = s := rfl
theorem tx_ba (l : L) : tx (ba l) = l := rfl
theorem ba_inj {a b : L} (h : ba a = ba b) : a = b := by
  have := congrArg tx h
  rwa [tx_ba, tx_ba] at this
theorem tx_inj {a b : BA} (h : tx a = tx b) : a = b := by
  rw [← ba_tx a, ← ba_tx b, h]

/-- A rule. -/
structure Rl where
  strict : Bool
  area : BA
  kind : Int
  ik : BA
  iv : BA
  op : Int
  key : BA
  vals : List BA
theorem Rl.ext' {a b : Rl} (h1 : a.strict = b.strict) (h2 : a.area = b.area) (h3 : a.kind = b.kind) (h4 : a.ik = b.ik) (h5 : a.iv = b.iv) (h6 : a.op = b.op) (h7 : a.key = b.key) (h8 : a.vals = b.vals) : a = b := by
  cases a; cases b; simp only at h1 h2 h3 h4 h5 h6 h7 h8; subst h1 h2 h3 h4 h5 h6 h7 h8; rfl
instance : DecidableEq Rl := fun a b =>
  if h : a.strict = b.strict ∧ a.area = b.area ∧ a.kind = b.kind ∧ a.ik = b.ik ∧ a.iv = b.iv ∧ a.op = b.op ∧ a.key = b.key ∧ a.vals = b.vals then isTrue (Rl.ext' h.1 h.2.1 h.2.2.1 h.2.2.2.1 h.2.2.2.2.1 h.2.2.2.2.2.1 h.2.2.2.2.2.2.1 h.2.2.2.2.2.2.2)
  else isFalse (fun e => h ⟨by rw [e], by rw [e], by rw [e], by rw [e], by rw [e], by rw [e], by rw [e], by rw [e]⟩)

/-! When a rule is valid. -/
def valueL (l : L) : Bool := !l.isEmpty && decide (l.length ≤ 200)
def valueB (s : BA) : Bool := decide (s.size ≠ 0) && decide (s.size ≤ 200)
def nameB (s : BA) : Bool := name (tx s)
def areaOk (s : BA) : Bool := decide (s.size = 0) || nameB s
def ifOk (k v : BA) : Bool := (decide (k.size = 0) && decide (v.size = 0)) || (nameB k && valueB v)
def opOk (op : Int) (n : Nat) : Bool := if op = 2 then decide (1 ≤ n) && decide (n ≤ 60) else (decide (op = 1) || decide (op = 3)) && decide (n = 0)
def validR (x : Rl) : Bool := areaOk x.area && (decide (0 ≤ x.kind) && (decide (x.kind ≤ 5) && (nameB x.key && (ifOk x.ik x.iv && (opOk x.op x.vals.length && x.vals.all valueB)))))
def validL (l : List Rl) : Bool := decide (l.length ≤ 200) && l.all validR

/-! How a rule is written. -/
def wMust : L := [109, 117, 115, 116]
def wIn : L := [105, 110]
def wWhere : L := [119, 104, 101, 114, 101]
def wNeeds : L := [110, 101, 101, 100, 115]
def wNo : L := [110, 111]
def wHas : L := [104, 97, 115]
def wOf : L := [111, 102]
def kindW : List L := [[97, 110, 121], [110, 111, 100, 101], [119, 97, 121], [97, 114, 101, 97], [114, 111, 117, 116, 101], [116, 117, 114, 110]]
def kindT (k : Int) : L := kindW.getD k.toNat []
def joinC : List L → L
  | [] => []
  | [a] => a
  | a :: r => a ++ ([44, 32] ++ joinC r)
def wrMust (x : Rl) : L := if x.strict then wMust ++ [32] else []
def wrIn (x : Rl) : L := if x.area.size = 0 then [] else wIn ++ ([32] ++ (tx x.area ++ [32]))
def wrIf (x : Rl) : L := if x.ik.size = 0 then [] else wWhere ++ ([32] ++ (tx x.ik ++ ([32, 61, 32] ++ (quote (tx x.iv) ++ [32]))))
def wrOp (x : Rl) : L :=
  if x.op = 1 then wNeeds ++ ([32] ++ tx x.key) else if x.op = 3 then wNo ++ ([32] ++ tx x.key)
  else wHas ++ ([32] ++ (tx x.key ++ ([32] ++ (wOf ++ ([32] ++ joinC (x.vals.map (fun s => quote (tx s))))))))
def writeR (x : Rl) : L := wrMust x ++ (wrIn x ++ (kindT x.kind ++ ([32] ++ (wrIf x ++ (wrOp x ++ [59, 10])))))
def writeL (l : List Rl) : L := l.flatMap writeR
/-- What Text returns. -/
def textL (l : List Rl) : BA × Int := if validL l then (if 20000 < (writeL l).length then (ba [], 2) else (ba (writeL l), 0)) else (ba [], 1)

/-! How rules are read from tokens: what is left; or an error, and what was left there. -/
abbrev Res (α : Type) := Except (Nat × List Tok) α
def bnd {α β : Type} (x : Res α) (f : α → Res β) : Res β :=
  match x with
  | .error e => .error e
  | .ok a => f a
def acceptT (k : Nat) (s : L) : List Tok → Option (List Tok)
  | [] => none
  | t :: r => if t.kind = k ∧ t.text = s then some r else none
def takeT (k : Nat) : List Tok → Res (L × List Tok)
  | [] => .error (5, [])
  | t :: r => if t.kind = k then (if k = 3 ∧ valueL t.text = false then .error (10, t :: r) else .ok (t.text, r)) else .error (5, t :: r)
def symbolT (s : L) (r : List Tok) : Res (List Tok) :=
  match acceptT 4 s r with
  | none => .error (5, r)
  | some r' => .ok r'
def isStr : List Tok → Bool
  | [] => false
  | t :: _ => decide (t.kind = 3)
def moreT : Nat → List BA → List Tok → Res (List BA × List Tok)
  | 0, l, r => .ok (l, r)
  | f + 1, l, r =>
    match acceptT 4 [44] r with
    | none => .ok (l, r)
    | some r1 => if l.length = 60 ∧ isStr r1 = true then .error (2, r1) else bnd (takeT 3 r1) (fun p => moreT f (l ++ [ba p.1]) p.2)
def valuesT (r : List Tok) : Res (List BA × List Tok) := bnd (takeT 3 r) (fun p => moreT (p.2.length + 1) [ba p.1] p.2)
def idxT : List L → Int → List Tok → Option (Int × List Tok)
  | [], _, _ => none
  | w :: ws, i, r =>
    match acceptT 1 w r with
    | some r' => some (i, r')
    | none => idxT ws (i + 1) r
def kindR (r : List Tok) : Res (Int × List Tok) :=
  match idxT kindW 0 r with
  | none => .error (5, r)
  | some p => .ok p
def mustR (r : List Tok) : Bool × List Tok :=
  match acceptT 1 wMust r with
  | none => (false, r)
  | some r' => (true, r')
def inR (r : List Tok) : Res (BA × List Tok) :=
  match acceptT 1 wIn r with
  | none => .ok (ba [], r)
  | some r1 => bnd (takeT 1 r1) (fun p => .ok (ba p.1, p.2))
def ifR (r : List Tok) : Res (BA × BA × List Tok) :=
  match acceptT 1 wWhere r with
  | none => .ok (ba [], ba [], r)
  | some r1 => bnd (takeT 1 r1) (fun p => bnd (symbolT [61] p.2) (fun r3 => bnd (takeT 3 r3) (fun q => .ok (ba p.1, ba q.1, q.2))))
def ofR (r : List Tok) : Res (List Tok) :=
  match acceptT 1 wOf r with
  | none => .error (5, r)
  | some r' => .ok r'
def opR (r : List Tok) : Res (Int × BA × List BA × List Tok) :=
  match acceptT 1 wNeeds r with
  | some r1 => bnd (takeT 1 r1) (fun p => .ok (1, ba p.1, [], p.2))
  | none =>
    match acceptT 1 wNo r with
    | some r1 => bnd (takeT 1 r1) (fun p => .ok (3, ba p.1, [], p.2))
    | none =>
      match acceptT 1 wHas r with
      | some r1 => bnd (takeT 1 r1) (fun p => bnd (ofR p.2) (fun r3 => bnd (valuesT r3) (fun q => .ok (2, ba p.1, q.1, q.2))))
      | none => .error (5, r)
def ruleR (r : List Tok) : Res (Rl × List Tok) :=
  bnd (inR (mustR r).2) (fun a => bnd (kindR a.2) (fun k => bnd (ifR k.2) (fun i => bnd (opR i.2.2) (fun o => bnd (symbolT [59] o.2.2.2) (fun r6 =>
    .ok (⟨(mustR r).1, a.1, k.1, i.1, i.2.1, o.1, o.2.1, o.2.2.1⟩, r6))))))
def rulesR : Nat → List Rl → List Tok → Res (List Rl)
  | 0, l, _ => .ok l
  | f + 1, l, r => if r.isEmpty then .ok l else if l.length = 200 then .error (2, r) else bnd (ruleR r) (fun p => rulesR f (l ++ [p.1]) p.2)
/-- The error's number and offset in a text of n bytes. -/
def errAt (n : Nat) (x : Nat × List Tok) : Nat × Int :=
  match x.2 with
  | [] => (6, n)
  | t :: _ => (x.1, t.off)
/-- What Parse returns. -/
def parseL (l : L) : List Rl × Nat × Int :=
  if (lex l).2.1 = 0 then
    match rulesR ((lex l).1.length + 1) [] (lex l).1 with
    | .ok x => (x, 0, 0)
    | .error e => ([], errAt l.length e)
  else ([], (lex l).2)
end Go.Proofs.PlRule
