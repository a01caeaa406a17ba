/-
  The plain laws of layer 4 (ring): rings as lists of points, their sides, and what each function computes. No program in sight.
-/
import Derived.Test.YtmklnioedeailaaPlain
namespace Go.Proofs.PlRing
open Go.Proofs.PlGeom

/-- A side, with its index, as the iterator hands it over: all its numbers small. -/
def fineP (p : Pt) : Prop := -4194304 ≤ p.x ∧ p.x ≤ 4194304 ∧ -4194304 ≤ p.y ∧ p.y ≤ 4194304
structure Sd where
  i : Nat
  s : Sg
  hi : i < 2000
  ha : fineP s.a
  hb : fineP s.b
def Sd.v (x : Sd) : Nat × Sg := (x.i, x.s)

/-- A ring that may be walked: few points, all of them fine. -/
structure Fine (r : List Pt) : Prop where
  few : r.length ≤ 2000
  pts : ∀ p ∈ r, fineP p

def at0 (r : List Pt) (i : Nat) : Pt := r[i]?.getD ⟨0, 0⟩
theorem at0_some (r : List Pt) (i : Nat) (h : i < r.length) : r[i]? = some (at0 r i) := by
  unfold at0; rw [List.getElem?_eq_getElem h]; rfl
def sideAt (r : List Pt) (i : Nat) : Sg := ⟨at0 r i, at0 r ((i + 1) % r.length)⟩
def sidesL (r : List Pt) : List (Nat × Sg) := (List.range r.length).map fun i => (i, sideAt r i)
def upto (r : List Pt) (k : Nat) : List (Nat × Sg) := (List.range k).map fun i => (i, sideAt r i)
theorem upto_succ (r : List Pt) (k : Nat) : upto r (k + 1) = upto r k ++ [(k, sideAt r k)] := by
  unfold upto; rw [List.range_succ, List.map_append]; rfl
theorem upto_all (r : List Pt) : upto r r.length = sidesL r := rfl
theorem upto_pre (r : List Pt) (k : Nat) (h : k ≤ r.length) : upto r k <+: sidesL r := by
  unfold upto sidesL
  refine List.IsPrefix.map _ ?_
  have : List.range k = (List.range r.length).take k := by rw [List.take_range, Nat.min_eq_left h]
  rw [this]
  exact List.take_prefix _ _
theorem upto_len (r : List Pt) (k : Nat) : (upto r k).length = k := by simp [upto]
theorem Fine.at0 {r : List Pt} (h : Fine r) (i : Nat) (hi : i < r.length) : fineP (at0 r i) := by
  refine h.pts _ ?_
  have := at0_some r i hi
  exact List.mem_of_getElem? this
theorem fine_near (p : Pt) (h : nearB p = true) : fineP p := by rw [nearB_iff] at h; exact ⟨by omega, by omega, by omega, by omega⟩
end Go.Proofs.PlRing
