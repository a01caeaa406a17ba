/-
  The plain law of GeomOrients. No program in sight.
-/
import Derived.Test.YtmklnioedeailaaPlainS
namespace Go.Proofs.PlGeom

/-! What GeomOrients says. -/
theorem orient_flip (a b c : Pt) : orient a c b = -orient a b c := by
  have e : cross a c b = -cross a b c := by unfold cross; grind
  have n : nearL [a, c, b] = nearL [a, b, c] := by
    rw [Bool.eq_iff_iff]; simp only [nearL, Bool.and_true, Bool.and_eq_true]
    constructor <;> (rintro ⟨h1, h2, h3⟩; exact ⟨h1, h3, h2⟩)
  unfold orient
  rw [n, e]
  split
  · have h1 := cmpI_cases (-cross a b c) 0
    have h2 := cmpI_cases (cross a b c) 0
    omega
  · rfl
theorem orient_turn (a b c : Pt) : orient b c a = orient a b c := by
  rw [orient_flip b a c, orient_back, Int.neg_neg]
theorem orient_pt2 (a b : Pt) : orient a b b = 0 := by
  have := orient_flip a b b
  omega
theorem orient_moved (a b c d : Pt) (h : nearL [a, b, c] = true) (h' : nearL [⟨a.x + d.x, a.y + d.y⟩, ⟨b.x + d.x, b.y + d.y⟩, ⟨c.x + d.x, c.y + d.y⟩] = true) :
    orient ⟨a.x + d.x, a.y + d.y⟩ ⟨b.x + d.x, b.y + d.y⟩ ⟨c.x + d.x, c.y + d.y⟩ = orient a b c := by
  have e : cross ⟨a.x + d.x, a.y + d.y⟩ ⟨b.x + d.x, b.y + d.y⟩ ⟨c.x + d.x, c.y + d.y⟩ = cross a b c := by unfold cross; simp only; grind
  unfold orient
  rw [if_pos h, if_pos h', e]
theorem dist_moved (a b d : Pt) (h : nearL [a, b] = true) (h' : nearL [⟨a.x + d.x, a.y + d.y⟩, ⟨b.x + d.x, b.y + d.y⟩] = true) :
    dist ⟨a.x + d.x, a.y + d.y⟩ ⟨b.x + d.x, b.y + d.y⟩ = dist a b := by
  unfold dist
  rw [if_pos h, if_pos h']
  simp only
  grind
end Go.Proofs.PlGeom
