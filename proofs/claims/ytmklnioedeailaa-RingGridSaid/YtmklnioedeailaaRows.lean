/-
  No cell of these rows narrows 'for every input' (looked for: loops, veiled, ifaces, maps, wideKeys, modest, calm, conditions, laid).
  DERIVED. THE GIVEN ROWS OF THIS SEAT. 8 by the template 'for every input the law returns true; each argument reads behind the call as it read before'; 0 by the template 'total and deterministic' (their statements: YtmklnioedeailaaTotals.lean).
  GIVEN WITH THE SEED: the statements are not yours to turn. If you find one false, say at which input.
  Laid BY PROGRAM, IN A SANDBOX (cutbox-rows.mjs): the forced cells as the released guide's own fill.sh prints them over the translation a8b870258ee912de… (all of the seat's roots in one cut). By AI agents, Wed Nov 11 2026. No macro, syntax, notation, axiom, sorry.
-/
import Derived.Test.YtmklnioedeailaaChecked
import GoSem.Claim
import GoSem.ClaimJoined
import GoSem.ClaimMapViews
import Derived.JoinedTies
import Derived.KernelRfl
namespace Go.Proofs.Ytmklnioedeailaa
/- THE CELL 'sum', in the pinned program and in every row, IS THE sha256 OF THE DUMP (.gsa) THAT YtmklnioedeailaaProg.lean LOADS. Nothing in Lean hashes anything: it is a label: what it is worth is what the hold of that sum in a sandbox is worth. -/
noncomputable def Try.pinned : Pinned := { name := "ytmklnioedeailaa", sum := "a8b870258ee912de1563f4ee9cac367c64ffdd017fd63f93c55848cc9406a191", checked := Try.checked }
namespace Rows
def none {H : Type} : Left H := { results := [], args := [] }

/-- 'planispherelaw04.RingMatchesReference': WHATEVER THE INPUT: true; the input reads as it did. -/
def ringMatchesReferenceSpec : ChangeSpec := { name := "ringMatchesReference", fn := fun _ => fun
  | [d1, d2, d3] => { results := [.lit (.bool true)], args := [d1, d2, d3] }
  | _ => none }
def ringMatchesReferenceRow : OpenClaim := { program := "ytmklnioedeailaa", sum := "a8b870258ee912de1563f4ee9cac367c64ffdd017fd63f93c55848cc9406a191", func := "planisphere/planispherelaw04.RingMatchesReference", spec := "ringMatchesReference", unfollowed := true, recurses := true, apart := false }
def RingMatchesReferenceSaid : Prop := ringMatchesReferenceRow.holds Try.pinned (OpenSpec.ofChange ringMatchesReferenceSpec)

/-- ITS FALSE NEIGHBOUR: 'it returns false'. Refute it at one input. -/
def ringMatchesReferenceWrong : ChangeSpec := { name := "ringMatchesReference", fn := fun _ => fun
  | [d1, d2, d3] => { results := [.lit (.bool false)], args := [d1, d2, d3] }
  | _ => none }
def RingMatchesReferenceWrongFalsely : Prop := ringMatchesReferenceRow.holds Try.pinned (OpenSpec.ofChange ringMatchesReferenceWrong)

/-- 'planispherelaw04.RingAreas': WHATEVER THE INPUT: true; the input reads as it did. -/
def ringAreasSpec : ChangeSpec := { name := "ringAreas", fn := fun _ => fun
  | [d1, d2] => { results := [.lit (.bool true)], args := [d1, d2] }
  | _ => none }
def ringAreasRow : OpenClaim := { program := "ytmklnioedeailaa", sum := "a8b870258ee912de1563f4ee9cac367c64ffdd017fd63f93c55848cc9406a191", func := "planisphere/planispherelaw04.RingAreas", spec := "ringAreas", unfollowed := true, recurses := true, apart := false }
def RingAreasSaid : Prop := ringAreasRow.holds Try.pinned (OpenSpec.ofChange ringAreasSpec)

/-- ITS FALSE NEIGHBOUR: 'it returns false'. Refute it at one input. -/
def ringAreasWrong : ChangeSpec := { name := "ringAreas", fn := fun _ => fun
  | [d1, d2] => { results := [.lit (.bool false)], args := [d1, d2] }
  | _ => none }
def RingAreasWrongFalsely : Prop := ringAreasRow.holds Try.pinned (OpenSpec.ofChange ringAreasWrong)

/-- 'planispherelaw04.RingGrid': WHATEVER THE INPUT: true; the input reads as it did. -/
def ringGridSpec : ChangeSpec := { name := "ringGrid", fn := fun _ => fun
  | [d] => { results := [.lit (.bool true)], args := [d] }
  | _ => none }
def ringGridRow : OpenClaim := { program := "ytmklnioedeailaa", sum := "a8b870258ee912de1563f4ee9cac367c64ffdd017fd63f93c55848cc9406a191", func := "planisphere/planispherelaw04.RingGrid", spec := "ringGrid", unfollowed := true, recurses := true, apart := false }
def RingGridSaid : Prop := ringGridRow.holds Try.pinned (OpenSpec.ofChange ringGridSpec)

/-- ITS FALSE NEIGHBOUR: 'it returns false'. Refute it at one input. -/
def ringGridWrong : ChangeSpec := { name := "ringGrid", fn := fun _ => fun
  | [d] => { results := [.lit (.bool false)], args := [d] }
  | _ => none }
def RingGridWrongFalsely : Prop := ringGridRow.holds Try.pinned (OpenSpec.ofChange ringGridWrong)

/-- 'planispherelaw04.RingOrder': WHATEVER THE INPUT: true; the input reads as it did. -/
def ringOrderSpec : ChangeSpec := { name := "ringOrder", fn := fun _ => fun
  | [d1, d2, d3, d4, d5] => { results := [.lit (.bool true)], args := [d1, d2, d3, d4, d5] }
  | _ => none }
def ringOrderRow : OpenClaim := { program := "ytmklnioedeailaa", sum := "a8b870258ee912de1563f4ee9cac367c64ffdd017fd63f93c55848cc9406a191", func := "planisphere/planispherelaw04.RingOrder", spec := "ringOrder", unfollowed := true, recurses := true, apart := false }
def RingOrderSaid : Prop := ringOrderRow.holds Try.pinned (OpenSpec.ofChange ringOrderSpec)

/-- ITS FALSE NEIGHBOUR: 'it returns false'. Refute it at one input. -/
def ringOrderWrong : ChangeSpec := { name := "ringOrder", fn := fun _ => fun
  | [d1, d2, d3, d4, d5] => { results := [.lit (.bool false)], args := [d1, d2, d3, d4, d5] }
  | _ => none }
def RingOrderWrongFalsely : Prop := ringOrderRow.holds Try.pinned (OpenSpec.ofChange ringOrderWrong)

/-- 'planispherelaw04.RingSymmetry': WHATEVER THE INPUT: true; the input reads as it did. -/
def ringSymmetrySpec : ChangeSpec := { name := "ringSymmetry", fn := fun _ => fun
  | [d1, d2] => { results := [.lit (.bool true)], args := [d1, d2] }
  | _ => none }
def ringSymmetryRow : OpenClaim := { program := "ytmklnioedeailaa", sum := "a8b870258ee912de1563f4ee9cac367c64ffdd017fd63f93c55848cc9406a191", func := "planisphere/planispherelaw04.RingSymmetry", spec := "ringSymmetry", unfollowed := true, recurses := true, apart := false }
def RingSymmetrySaid : Prop := ringSymmetryRow.holds Try.pinned (OpenSpec.ofChange ringSymmetrySpec)

/-- ITS FALSE NEIGHBOUR: 'it returns false'. Refute it at one input. -/
def ringSymmetryWrong : ChangeSpec := { name := "ringSymmetry", fn := fun _ => fun
  | [d1, d2] => { results := [.lit (.bool false)], args := [d1, d2] }
  | _ => none }
def RingSymmetryWrongFalsely : Prop := ringSymmetryRow.holds Try.pinned (OpenSpec.ofChange ringSymmetryWrong)

/-- 'planispherelaw04.RingPoints': WHATEVER THE INPUT: true; the input reads as it did. -/
def ringPointsSpec : ChangeSpec := { name := "ringPoints", fn := fun _ => fun
  | [d1, d2, d3] => { results := [.lit (.bool true)], args := [d1, d2, d3] }
  | _ => none }
def ringPointsRow : OpenClaim := { program := "ytmklnioedeailaa", sum := "a8b870258ee912de1563f4ee9cac367c64ffdd017fd63f93c55848cc9406a191", func := "planisphere/planispherelaw04.RingPoints", spec := "ringPoints", unfollowed := true, recurses := true, apart := false }
def RingPointsSaid : Prop := ringPointsRow.holds Try.pinned (OpenSpec.ofChange ringPointsSpec)

/-- ITS FALSE NEIGHBOUR: 'it returns false'. Refute it at one input. -/
def ringPointsWrong : ChangeSpec := { name := "ringPoints", fn := fun _ => fun
  | [d1, d2, d3] => { results := [.lit (.bool false)], args := [d1, d2, d3] }
  | _ => none }
def RingPointsWrongFalsely : Prop := ringPointsRow.holds Try.pinned (OpenSpec.ofChange ringPointsWrong)

/-- 'planispherelaw04.RingMoves': WHATEVER THE INPUT: true; the input reads as it did. -/
def ringMovesSpec : ChangeSpec := { name := "ringMoves", fn := fun _ => fun
  | [d1, d2, d3, d4] => { results := [.lit (.bool true)], args := [d1, d2, d3, d4] }
  | _ => none }
def ringMovesRow : OpenClaim := { program := "ytmklnioedeailaa", sum := "a8b870258ee912de1563f4ee9cac367c64ffdd017fd63f93c55848cc9406a191", func := "planisphere/planispherelaw04.RingMoves", spec := "ringMoves", unfollowed := true, recurses := true, apart := false }
def RingMovesSaid : Prop := ringMovesRow.holds Try.pinned (OpenSpec.ofChange ringMovesSpec)

/-- ITS FALSE NEIGHBOUR: 'it returns false'. Refute it at one input. -/
def ringMovesWrong : ChangeSpec := { name := "ringMoves", fn := fun _ => fun
  | [d1, d2, d3, d4] => { results := [.lit (.bool false)], args := [d1, d2, d3, d4] }
  | _ => none }
def RingMovesWrongFalsely : Prop := ringMovesRow.holds Try.pinned (OpenSpec.ofChange ringMovesWrong)

/-- 'planispherelaw04.RingTriangles': WHATEVER THE INPUT: true; the input reads as it did. -/
def ringTrianglesSpec : ChangeSpec := { name := "ringTriangles", fn := fun _ => fun
  | [d1, d2, d3, d4] => { results := [.lit (.bool true)], args := [d1, d2, d3, d4] }
  | _ => none }
def ringTrianglesRow : OpenClaim := { program := "ytmklnioedeailaa", sum := "a8b870258ee912de1563f4ee9cac367c64ffdd017fd63f93c55848cc9406a191", func := "planisphere/planispherelaw04.RingTriangles", spec := "ringTriangles", unfollowed := true, recurses := true, apart := false }
def RingTrianglesSaid : Prop := ringTrianglesRow.holds Try.pinned (OpenSpec.ofChange ringTrianglesSpec)

/-- ITS FALSE NEIGHBOUR: 'it returns false'. Refute it at one input. -/
def ringTrianglesWrong : ChangeSpec := { name := "ringTriangles", fn := fun _ => fun
  | [d1, d2, d3, d4] => { results := [.lit (.bool false)], args := [d1, d2, d3, d4] }
  | _ => none }
def RingTrianglesWrongFalsely : Prop := ringTrianglesRow.holds Try.pinned (OpenSpec.ofChange ringTrianglesWrong)

/- THE SECOND FORM. 'bulk': how many values and letters a reading holds, each counted each time it is reached (what is shared counts as often as it is met; a slice's spare places count too). A statement '..UptoSaid' is the law's where the arguments, and the package variables that the reading takes, are together of bulk at most 1048576: NARROWER than '..Said'. Prove '..Said' where nothing that the law and all that it calls make is longer than what came in: it says more and counts as full. Else prove '..UptoSaid'. A law counts once. -/
mutual
def uptoBulk {H : Type} : DataW H → Nat
  | .lit (.string bytes) => bytes.length + 1
  | .lit _ => 1
  | .nil => 1
  | .ptr d => uptoBulk d + 1
  | .slice elems spare => uptoBulkAll elems + uptoBulkAll spare + 1
  | .agg parts => uptoBulkAll parts + 1
  | .iface _ d => uptoBulk d + 1
  | .map entries => uptoBulkEntries entries + 1
  | .held _ => 1
def uptoBulkAll {H : Type} : List (DataW H) → Nat
  | [] => 0
  | d :: r => uptoBulk d + uptoBulkAll r
def uptoBulkEntries {H : Type} : List (Lit × DataW H) → Nat
  | [] => 0
  | x :: r => uptoBulkEntry x + uptoBulkEntries r
def uptoBulkEntry {H : Type} : Lit × DataW H → Nat
  | (.string bytes, d) => bytes.length + uptoBulk d + 1
  | (_, d) => uptoBulk d + 1
 end
def uptoSmall : (H : Type) → List (DataW H) → Bool := fun _ ds => decide (uptoBulkAll ds ≤ 1048576)
def OpenSpec.upto (s : _root_.Go.ChangeSpec) : _root_.Go.OpenSpec := { _root_.Go.OpenSpec.ofChange s with cond := some uptoSmall }

/-- 'planispherelaw04.RingMatchesReference', WHERE WHAT IT READS IS OF BULK AT MOST 1048576: true; the input reads as it did. -/
def ringMatchesReferenceUptoRow : OpenClaim := { program := "ytmklnioedeailaa", sum := "a8b870258ee912de1563f4ee9cac367c64ffdd017fd63f93c55848cc9406a191", func := "planisphere/planispherelaw04.RingMatchesReference", spec := "ringMatchesReference", unfollowed := true, recurses := true, apart := false, narrowed := true }
def RingMatchesReferenceUptoSaid : Prop := ringMatchesReferenceUptoRow.holds Try.pinned (OpenSpec.upto ringMatchesReferenceSpec)

/-- 'planispherelaw04.RingAreas', WHERE WHAT IT READS IS OF BULK AT MOST 1048576: true; the input reads as it did. -/
def ringAreasUptoRow : OpenClaim := { program := "ytmklnioedeailaa", sum := "a8b870258ee912de1563f4ee9cac367c64ffdd017fd63f93c55848cc9406a191", func := "planisphere/planispherelaw04.RingAreas", spec := "ringAreas", unfollowed := true, recurses := true, apart := false, narrowed := true }
def RingAreasUptoSaid : Prop := ringAreasUptoRow.holds Try.pinned (OpenSpec.upto ringAreasSpec)

/-- 'planispherelaw04.RingGrid', WHERE WHAT IT READS IS OF BULK AT MOST 1048576: true; the input reads as it did. -/
def ringGridUptoRow : OpenClaim := { program := "ytmklnioedeailaa", sum := "a8b870258ee912de1563f4ee9cac367c64ffdd017fd63f93c55848cc9406a191", func := "planisphere/planispherelaw04.RingGrid", spec := "ringGrid", unfollowed := true, recurses := true, apart := false, narrowed := true }
def RingGridUptoSaid : Prop := ringGridUptoRow.holds Try.pinned (OpenSpec.upto ringGridSpec)

/-- 'planispherelaw04.RingOrder', WHERE WHAT IT READS IS OF BULK AT MOST 1048576: true; the input reads as it did. -/
def ringOrderUptoRow : OpenClaim := { program := "ytmklnioedeailaa", sum := "a8b870258ee912de1563f4ee9cac367c64ffdd017fd63f93c55848cc9406a191", func := "planisphere/planispherelaw04.RingOrder", spec := "ringOrder", unfollowed := true, recurses := true, apart := false, narrowed := true }
def RingOrderUptoSaid : Prop := ringOrderUptoRow.holds Try.pinned (OpenSpec.upto ringOrderSpec)

/-- 'planispherelaw04.RingSymmetry', WHERE WHAT IT READS IS OF BULK AT MOST 1048576: true; the input reads as it did. -/
def ringSymmetryUptoRow : OpenClaim := { program := "ytmklnioedeailaa", sum := "a8b870258ee912de1563f4ee9cac367c64ffdd017fd63f93c55848cc9406a191", func := "planisphere/planispherelaw04.RingSymmetry", spec := "ringSymmetry", unfollowed := true, recurses := true, apart := false, narrowed := true }
def RingSymmetryUptoSaid : Prop := ringSymmetryUptoRow.holds Try.pinned (OpenSpec.upto ringSymmetrySpec)

/-- 'planispherelaw04.RingPoints', WHERE WHAT IT READS IS OF BULK AT MOST 1048576: true; the input reads as it did. -/
def ringPointsUptoRow : OpenClaim := { program := "ytmklnioedeailaa", sum := "a8b870258ee912de1563f4ee9cac367c64ffdd017fd63f93c55848cc9406a191", func := "planisphere/planispherelaw04.RingPoints", spec := "ringPoints", unfollowed := true, recurses := true, apart := false, narrowed := true }
def RingPointsUptoSaid : Prop := ringPointsUptoRow.holds Try.pinned (OpenSpec.upto ringPointsSpec)

/-- 'planispherelaw04.RingMoves', WHERE WHAT IT READS IS OF BULK AT MOST 1048576: true; the input reads as it did. -/
def ringMovesUptoRow : OpenClaim := { program := "ytmklnioedeailaa", sum := "a8b870258ee912de1563f4ee9cac367c64ffdd017fd63f93c55848cc9406a191", func := "planisphere/planispherelaw04.RingMoves", spec := "ringMoves", unfollowed := true, recurses := true, apart := false, narrowed := true }
def RingMovesUptoSaid : Prop := ringMovesUptoRow.holds Try.pinned (OpenSpec.upto ringMovesSpec)

/-- 'planispherelaw04.RingTriangles', WHERE WHAT IT READS IS OF BULK AT MOST 1048576: true; the input reads as it did. -/
def ringTrianglesUptoRow : OpenClaim := { program := "ytmklnioedeailaa", sum := "a8b870258ee912de1563f4ee9cac367c64ffdd017fd63f93c55848cc9406a191", func := "planisphere/planispherelaw04.RingTriangles", spec := "ringTriangles", unfollowed := true, recurses := true, apart := false, narrowed := true }
def RingTrianglesUptoSaid : Prop := ringTrianglesUptoRow.holds Try.pinned (OpenSpec.upto ringTrianglesSpec)

end Rows
end Go.Proofs.Ytmklnioedeailaa
