/-
  Where an error lies: at the end, or at a token of the text. No program in sight.
-/
import Derived.Test.YtoodmhlefaepaaaGreatPlainE
namespace Go.Proofs.PlRule
open Go Go.Proofs.PlLex

def Er {α : Type} (r : List Tok) (x : Res α) : Prop := ∀ e, x = .error e → ∀ t ∈ e.2, t ∈ r
theorem Er.ok {α : Type} (r : List Tok) (a : α) : Er r (.ok a : Res α) := fun _ h => nomatch h
theorem Er.er {α : Type} {n : Nat} {r r' : List Tok} (h : r' <:+ r) : Er r (.error (n, r') : Res α) := fun e h' => by cases h'; exact fun t ht => h.subset ht
theorem Er.sub {α : Type} {r r' : List Tok} {x : Res α} (h : Er r' x) (hs : r' <:+ r) : Er r x := fun e he t ht => hs.subset (h e he t ht)
theorem Er.bnd {α β : Type} {r : List Tok} {x : Res α} {f : α → Res β} (h : Er r x) (hf : ∀ a, x = .ok a → Er r (f a)) : Er r (bnd x f) := by
  cases x with
  | error e => intro e' h'; cases h'; exact h e rfl
  | ok a => exact hf a rfl
theorem take_er (k : Nat) (r : List Tok) : Er r (takeT k r) := by
  cases r with
  | nil => exact Er.er (List.suffix_refl _)
  | cons t r =>
    show Er (t :: r) (if t.kind = k then (if k = 3 ∧ valueL t.text = false then (.error (10, t :: r) : Res (L × List Tok)) else .ok (t.text, r)) else .error (5, t :: r))
    split
    · split
      · exact Er.er (List.suffix_refl _)
      · exact Er.ok _ _
    · exact Er.er (List.suffix_refl _)
theorem symbol_er (s : L) (r : List Tok) : Er r (symbolT s r) := by
  unfold symbolT
  split
  · exact Er.er (List.suffix_refl _)
  · exact Er.ok _ _
theorem more_er (f : Nat) : ∀ (l : List BA) (r : List Tok), Er r (moreT f l r) := by
  induction f with
  | zero => intro l r; exact Er.ok _ _
  | succ f ih =>
    intro l r
    rw [more_succ]
    cases e : acceptT 4 [44] r with
    | none => exact Er.ok _ _
    | some r1 =>
      show Er r (if l.length = 60 ∧ isStr r1 = true then (.error (2, r1) : Res (List BA × List Tok)) else PlRule.bnd (takeT 3 r1) (fun p => moreT f (l ++ [ba p.1]) p.2))
      split
      · exact Er.er (accept_suf e)
      · exact ((take_er 3 r1).bnd (fun a ha => (ih _ _).sub (take_suf ha))).sub (accept_suf e)
theorem values_er (r : List Tok) : Er r (valuesT r) := (take_er 3 r).bnd (fun _ ha => (more_er _ _ _).sub (take_suf ha))
theorem in_er (r : List Tok) : Er r (inR r) := by
  unfold inR
  cases e : acceptT 1 wIn r with
  | none => exact Er.ok _ _
  | some r1 => exact ((take_er 1 r1).bnd (fun a _ => Er.ok _ _)).sub (accept_suf e)
theorem kind_er (r : List Tok) : Er r (kindR r) := by
  unfold kindR
  split
  · exact Er.er (List.suffix_refl _)
  · exact Er.ok _ _
theorem if_er (r : List Tok) : Er r (ifR r) := by
  unfold ifR
  cases e : acceptT 1 wWhere r with
  | none => exact Er.ok _ _
  | some r1 =>
    refine Er.sub ?_ (accept_suf e)
    exact (take_er 1 r1).bnd (fun a ha => Er.sub ((symbol_er _ _).bnd (fun b hb => Er.sub ((take_er 3 _).bnd (fun c _ => Er.ok _ _)) (accept_suf (symbol_cut hb)))) (take_suf ha))
theorem of_er (r : List Tok) : Er r (ofR r) := by
  unfold ofR
  split
  · exact Er.er (List.suffix_refl _)
  · exact Er.ok _ _
theorem op_er (r : List Tok) : Er r (opR r) := by
  unfold opR
  cases e1 : acceptT 1 wNeeds r with
  | some r1 => exact ((take_er 1 r1).bnd (fun a _ => Er.ok _ _)).sub (accept_suf e1)
  | none =>
    cases e2 : acceptT 1 wNo r with
    | some r1 => exact ((take_er 1 r1).bnd (fun a _ => Er.ok _ _)).sub (accept_suf e2)
    | none =>
      cases e3 : acceptT 1 wHas r with
      | none => exact Er.er (List.suffix_refl _)
      | some r1 =>
        refine Er.sub ?_ (accept_suf e3)
        exact (take_er 1 r1).bnd (fun a ha => Er.sub ((of_er _).bnd (fun b hb => Er.sub ((values_er _).bnd (fun c _ => Er.ok _ _)) (accept_suf (of_cut hb)))) (take_suf ha))
theorem rule_er (r : List Tok) : Er r (ruleR r) := by
  unfold ruleR
  refine Er.sub ?_ (must_suf r)
  exact (in_er _).bnd (fun a ha => Er.sub ((kind_er _).bnd (fun k hk => Er.sub ((if_er _).bnd (fun i hi => Er.sub ((op_er _).bnd (fun o ho => Er.sub ((symbol_er _ _).bnd (fun _ _ => Er.ok _ _)) (op_suf ho))) (if_suf hi))) (idx_suf (j := k.1) (r' := k.2) (kind_cut hk)))) (in_suf ha))
theorem rules_er (f : Nat) : ∀ (l : List Rl) (r : List Tok), Er r (rulesR f l r) := by
  induction f with
  | zero => intro l r; exact Er.ok _ _
  | succ f ih =>
    intro l r
    rw [rulesR_one]
    split
    · exact Er.ok _ _
    · split
      · exact Er.er (List.suffix_refl _)
      · exact (rule_er r).bnd (fun a ha => (ih _ _).sub (rule_suf (x := a.1) (r' := a.2) ha).1)
/-- The offset of an error lies in the text. -/
theorem parse_off {l : L} {N : Nat} (hN : l.length ≤ N) (h5 : l.length ≤ 5000) (ho : ∀ t ∈ (lex l).1, t.off ≤ N) : 0 ≤ (parseL l).2.2 ∧ (parseL l).2.2 ≤ N := by
  have hl := lex_small l h5
  cases hr : (scan 0 0 l).2 with
  | some e =>
    obtain ⟨h3, _, h4⟩ := scan_error 0 l e.1 e.2 hr
    rw [hr] at hl
    replace hl : lex l = ([], e.1, (e.2 : Int)) := hl
    rw [parse_lex_err hl (by omega)]
    show (0 : Int) ≤ (e.2 : Int) ∧ (e.2 : Int) ≤ N
    omega
  | none =>
    rw [hr] at hl
    replace hl : lex l = ((scan 0 0 l).1, 0, 0) := hl
    rw [hl] at ho
    rw [parse_lex_ok hl]
    cases hx : rulesR ((scan 0 0 l).1.length + 1) [] (scan 0 0 l).1 with
    | ok x => show (0 : Int) ≤ 0 ∧ (0 : Int) ≤ N; omega
    | error e =>
      have := rules_er _ _ _ e hx
      obtain ⟨k, r⟩ := e
      cases r with
      | nil => show (0 : Int) ≤ (l.length : Int) ∧ (l.length : Int) ≤ N; omega
      | cons t r =>
        have h1 := ho t (this t (List.mem_cons_self ..))
        show (0 : Int) ≤ (t.off : Int) ∧ (t.off : Int) ≤ N
        omega
end Go.Proofs.PlRule
