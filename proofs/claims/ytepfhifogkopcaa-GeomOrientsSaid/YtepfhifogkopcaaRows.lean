/-
  No cell of these rows narrows 'for every input' (looked for: loops, veiled, ifaces, maps, wideKeys, modest, calm, conditions, laid).
  DERIVED. THE GIVEN ROWS OF THIS SEAT. 7 by the template 'for every input the law returns true; each argument reads behind the call as it read before'; 0 by the template 'total and deterministic' (their statements: YtepfhifogkopcaaTotals.lean).
  GIVEN WITH THE SEED: the statements are not yours to turn. If you find one false, say at which input.
  Laid BY PROGRAM, IN A SANDBOX (cutbox-rows.mjs): the forced cells as the released guide's own fill.sh prints them over the translation ad87922fd14d26c6… (all of the seat's roots in one cut). By AI agents, Wed Nov 11 2026. No macro, syntax, notation, axiom, sorry.
-/
import Derived.Test.YtepfhifogkopcaaChecked
import GoSem.Claim
import GoSem.ClaimJoined
import GoSem.ClaimMapViews
import Derived.JoinedTies
import Derived.KernelRfl
namespace Go.Proofs.Ytepfhifogkopcaa
/- THE CELL 'sum', in the pinned program and in every row, IS THE sha256 OF THE DUMP (.gsa) THAT YtepfhifogkopcaaProg.lean LOADS. Nothing in Lean hashes anything: it is a label: what it is worth is what the hold of that sum in a sandbox is worth. -/
noncomputable def Try.pinned : Pinned := { name := "ytepfhifogkopcaa", sum := "ad87922fd14d26c6da3077c4bcebfe4254447b5db33061d59c9f4ba364f49d5e", checked := Try.checked }
namespace Rows
def none {H : Type} : Left H := { results := [], args := [] }

/-- 'planispherelaw03.GeomMatchesReference': WHATEVER THE INPUT: true; the input reads as it did. -/
def geomMatchesReferenceSpec : ChangeSpec := { name := "geomMatchesReference", fn := fun _ => fun
  | [d1, d2, d3, d4, d5, d6] => { results := [.lit (.bool true)], args := [d1, d2, d3, d4, d5, d6] }
  | _ => none }
def geomMatchesReferenceRow : OpenClaim := { program := "ytepfhifogkopcaa", sum := "ad87922fd14d26c6da3077c4bcebfe4254447b5db33061d59c9f4ba364f49d5e", func := "planisphere/planispherelaw03.GeomMatchesReference", spec := "geomMatchesReference", unfollowed := true, recurses := true, named := ["math/bits.divideError", "math/bits.overflowError"], apart := false }
def GeomMatchesReferenceSaid : Prop := geomMatchesReferenceRow.holds Try.pinned (OpenSpec.ofChange geomMatchesReferenceSpec)

/-- ITS FALSE NEIGHBOUR: 'it returns false'. Refute it at one input. -/
def geomMatchesReferenceWrong : ChangeSpec := { name := "geomMatchesReference", fn := fun _ => fun
  | [d1, d2, d3, d4, d5, d6] => { results := [.lit (.bool false)], args := [d1, d2, d3, d4, d5, d6] }
  | _ => none }
def GeomMatchesReferenceWrongFalsely : Prop := geomMatchesReferenceRow.holds Try.pinned (OpenSpec.ofChange geomMatchesReferenceWrong)

/-- 'planispherelaw03.GeomOrients': WHATEVER THE INPUT: true; the input reads as it did. -/
def geomOrientsSpec : ChangeSpec := { name := "geomOrients", fn := fun _ => fun
  | [d1, d2, d3, d4] => { results := [.lit (.bool true)], args := [d1, d2, d3, d4] }
  | _ => none }
def geomOrientsRow : OpenClaim := { program := "ytepfhifogkopcaa", sum := "ad87922fd14d26c6da3077c4bcebfe4254447b5db33061d59c9f4ba364f49d5e", func := "planisphere/planispherelaw03.GeomOrients", spec := "geomOrients", unfollowed := true, recurses := true, named := ["math/bits.divideError", "math/bits.overflowError"], apart := false }
def GeomOrientsSaid : Prop := geomOrientsRow.holds Try.pinned (OpenSpec.ofChange geomOrientsSpec)

/-- ITS FALSE NEIGHBOUR: 'it returns false'. Refute it at one input. -/
def geomOrientsWrong : ChangeSpec := { name := "geomOrients", fn := fun _ => fun
  | [d1, d2, d3, d4] => { results := [.lit (.bool false)], args := [d1, d2, d3, d4] }
  | _ => none }
def GeomOrientsWrongFalsely : Prop := geomOrientsRow.holds Try.pinned (OpenSpec.ofChange geomOrientsWrong)

/-- 'planispherelaw03.GeomCompares': WHATEVER THE INPUT: true; the input reads as it did. -/
def geomComparesSpec : ChangeSpec := { name := "geomCompares", fn := fun _ => fun
  | [d1, d2, d3] => { results := [.lit (.bool true)], args := [d1, d2, d3] }
  | _ => none }
def geomComparesRow : OpenClaim := { program := "ytepfhifogkopcaa", sum := "ad87922fd14d26c6da3077c4bcebfe4254447b5db33061d59c9f4ba364f49d5e", func := "planisphere/planispherelaw03.GeomCompares", spec := "geomCompares", unfollowed := true, recurses := true, named := ["math/bits.divideError", "math/bits.overflowError"], apart := false }
def GeomComparesSaid : Prop := geomComparesRow.holds Try.pinned (OpenSpec.ofChange geomComparesSpec)

/-- ITS FALSE NEIGHBOUR: 'it returns false'. Refute it at one input. -/
def geomComparesWrong : ChangeSpec := { name := "geomCompares", fn := fun _ => fun
  | [d1, d2, d3] => { results := [.lit (.bool false)], args := [d1, d2, d3] }
  | _ => none }
def GeomComparesWrongFalsely : Prop := geomComparesRow.holds Try.pinned (OpenSpec.ofChange geomComparesWrong)

/-- 'planispherelaw03.GeomMeets': WHATEVER THE INPUT: true; the input reads as it did. -/
def geomMeetsSpec : ChangeSpec := { name := "geomMeets", fn := fun _ => fun
  | [d1, d2] => { results := [.lit (.bool true)], args := [d1, d2] }
  | _ => none }
def geomMeetsRow : OpenClaim := { program := "ytepfhifogkopcaa", sum := "ad87922fd14d26c6da3077c4bcebfe4254447b5db33061d59c9f4ba364f49d5e", func := "planisphere/planispherelaw03.GeomMeets", spec := "geomMeets", unfollowed := true, recurses := true, named := ["math/bits.divideError", "math/bits.overflowError"], apart := false }
def GeomMeetsSaid : Prop := geomMeetsRow.holds Try.pinned (OpenSpec.ofChange geomMeetsSpec)

/-- ITS FALSE NEIGHBOUR: 'it returns false'. Refute it at one input. -/
def geomMeetsWrong : ChangeSpec := { name := "geomMeets", fn := fun _ => fun
  | [d1, d2] => { results := [.lit (.bool false)], args := [d1, d2] }
  | _ => none }
def GeomMeetsWrongFalsely : Prop := geomMeetsRow.holds Try.pinned (OpenSpec.ofChange geomMeetsWrong)

/-- 'planispherelaw03.GeomShares': WHATEVER THE INPUT: true; the input reads as it did. -/
def geomSharesSpec : ChangeSpec := { name := "geomShares", fn := fun _ => fun
  | [d1, d2, d3, d4] => { results := [.lit (.bool true)], args := [d1, d2, d3, d4] }
  | _ => none }
def geomSharesRow : OpenClaim := { program := "ytepfhifogkopcaa", sum := "ad87922fd14d26c6da3077c4bcebfe4254447b5db33061d59c9f4ba364f49d5e", func := "planisphere/planispherelaw03.GeomShares", spec := "geomShares", unfollowed := true, recurses := true, named := ["math/bits.divideError", "math/bits.overflowError"], apart := false }
def GeomSharesSaid : Prop := geomSharesRow.holds Try.pinned (OpenSpec.ofChange geomSharesSpec)

/-- ITS FALSE NEIGHBOUR: 'it returns false'. Refute it at one input. -/
def geomSharesWrong : ChangeSpec := { name := "geomShares", fn := fun _ => fun
  | [d1, d2, d3, d4] => { results := [.lit (.bool false)], args := [d1, d2, d3, d4] }
  | _ => none }
def GeomSharesWrongFalsely : Prop := geomSharesRow.holds Try.pinned (OpenSpec.ofChange geomSharesWrong)

/-- 'planispherelaw03.GeomNear': WHATEVER THE INPUT: true; the input reads as it did. -/
def geomNearSpec : ChangeSpec := { name := "geomNear", fn := fun _ => fun
  | [d1, d2, d3] => { results := [.lit (.bool true)], args := [d1, d2, d3] }
  | _ => none }
def geomNearRow : OpenClaim := { program := "ytepfhifogkopcaa", sum := "ad87922fd14d26c6da3077c4bcebfe4254447b5db33061d59c9f4ba364f49d5e", func := "planisphere/planispherelaw03.GeomNear", spec := "geomNear", unfollowed := true, recurses := true, named := ["math/bits.divideError", "math/bits.overflowError"], apart := false }
def GeomNearSaid : Prop := geomNearRow.holds Try.pinned (OpenSpec.ofChange geomNearSpec)

/-- ITS FALSE NEIGHBOUR: 'it returns false'. Refute it at one input. -/
def geomNearWrong : ChangeSpec := { name := "geomNear", fn := fun _ => fun
  | [d1, d2, d3] => { results := [.lit (.bool false)], args := [d1, d2, d3] }
  | _ => none }
def GeomNearWrongFalsely : Prop := geomNearRow.holds Try.pinned (OpenSpec.ofChange geomNearWrong)

/-- 'planispherelaw03.GeomRoots': WHATEVER THE INPUT: true; the input reads as it did. -/
def geomRootsSpec : ChangeSpec := { name := "geomRoots", fn := fun _ => fun
  | [d1, d2] => { results := [.lit (.bool true)], args := [d1, d2] }
  | _ => none }
def geomRootsRow : OpenClaim := { program := "ytepfhifogkopcaa", sum := "ad87922fd14d26c6da3077c4bcebfe4254447b5db33061d59c9f4ba364f49d5e", func := "planisphere/planispherelaw03.GeomRoots", spec := "geomRoots", unfollowed := true, recurses := true, named := ["math/bits.divideError", "math/bits.overflowError"], apart := false }
def GeomRootsSaid : Prop := geomRootsRow.holds Try.pinned (OpenSpec.ofChange geomRootsSpec)

/-- ITS FALSE NEIGHBOUR: 'it returns false'. Refute it at one input. -/
def geomRootsWrong : ChangeSpec := { name := "geomRoots", fn := fun _ => fun
  | [d1, d2] => { results := [.lit (.bool false)], args := [d1, d2] }
  | _ => none }
def GeomRootsWrongFalsely : Prop := geomRootsRow.holds Try.pinned (OpenSpec.ofChange geomRootsWrong)

/- THE SECOND FORM. 'bulk': how many values and letters a reading holds, each counted each time it is reached (what is shared counts as often as it is met; a slice's spare places count too). A statement '..UptoSaid' is the law's where the arguments, and the package variables that the reading takes, are together of bulk at most 1048576: NARROWER than '..Said'. Prove '..Said' where nothing that the law and all that it calls make is longer than what came in: it says more and counts as full. Else prove '..UptoSaid'. A law counts once. -/
mutual
def uptoBulk {H : Type} : DataW H → Nat
  | .lit (.string bytes) => bytes.length + 1
  | .lit _ => 1
  | .nil => 1
  | .ptr d => uptoBulk d + 1
  | .slice elems spare => uptoBulkAll elems + uptoBulkAll spare + 1
  | .agg parts => uptoBulkAll parts + 1
  | .iface _ d => uptoBulk d + 1
  | .map entries => uptoBulkEntries entries + 1
  | .held _ => 1
def uptoBulkAll {H : Type} : List (DataW H) → Nat
  | [] => 0
  | d :: r => uptoBulk d + uptoBulkAll r
def uptoBulkEntries {H : Type} : List (Lit × DataW H) → Nat
  | [] => 0
  | x :: r => uptoBulkEntry x + uptoBulkEntries r
def uptoBulkEntry {H : Type} : Lit × DataW H → Nat
  | (.string bytes, d) => bytes.length + uptoBulk d + 1
  | (_, d) => uptoBulk d + 1
 end
def uptoSmall : (H : Type) → List (DataW H) → Bool := fun _ ds => decide (uptoBulkAll ds ≤ 1048576)
def OpenSpec.upto (s : _root_.Go.ChangeSpec) : _root_.Go.OpenSpec := { _root_.Go.OpenSpec.ofChange s with cond := some uptoSmall }

/-- 'planispherelaw03.GeomMatchesReference', WHERE WHAT IT READS IS OF BULK AT MOST 1048576: true; the input reads as it did. -/
def geomMatchesReferenceUptoRow : OpenClaim := { program := "ytepfhifogkopcaa", sum := "ad87922fd14d26c6da3077c4bcebfe4254447b5db33061d59c9f4ba364f49d5e", func := "planisphere/planispherelaw03.GeomMatchesReference", spec := "geomMatchesReference", unfollowed := true, recurses := true, named := ["math/bits.divideError", "math/bits.overflowError"], apart := false, narrowed := true }
def GeomMatchesReferenceUptoSaid : Prop := geomMatchesReferenceUptoRow.holds Try.pinned (OpenSpec.upto geomMatchesReferenceSpec)

/-- 'planispherelaw03.GeomOrients', WHERE WHAT IT READS IS OF BULK AT MOST 1048576: true; the input reads as it did. -/
def geomOrientsUptoRow : OpenClaim := { program := "ytepfhifogkopcaa", sum := "ad87922fd14d26c6da3077c4bcebfe4254447b5db33061d59c9f4ba364f49d5e", func := "planisphere/planispherelaw03.GeomOrients", spec := "geomOrients", unfollowed := true, recurses := true, named := ["math/bits.divideError", "math/bits.overflowError"], apart := false, narrowed := true }
def GeomOrientsUptoSaid : Prop := geomOrientsUptoRow.holds Try.pinned (OpenSpec.upto geomOrientsSpec)

/-- 'planispherelaw03.GeomCompares', WHERE WHAT IT READS IS OF BULK AT MOST 1048576: true; the input reads as it did. -/
def geomComparesUptoRow : OpenClaim := { program := "ytepfhifogkopcaa", sum := "ad87922fd14d26c6da3077c4bcebfe4254447b5db33061d59c9f4ba364f49d5e", func := "planisphere/planispherelaw03.GeomCompares", spec := "geomCompares", unfollowed := true, recurses := true, named := ["math/bits.divideError", "math/bits.overflowError"], apart := false, narrowed := true }
def GeomComparesUptoSaid : Prop := geomComparesUptoRow.holds Try.pinned (OpenSpec.upto geomComparesSpec)

/-- 'planispherelaw03.GeomMeets', WHERE WHAT IT READS IS OF BULK AT MOST 1048576: true; the input reads as it did. -/
def geomMeetsUptoRow : OpenClaim := { program := "ytepfhifogkopcaa", sum := "ad87922fd14d26c6da3077c4bcebfe4254447b5db33061d59c9f4ba364f49d5e", func := "planisphere/planispherelaw03.GeomMeets", spec := "geomMeets", unfollowed := true, recurses := true, named := ["math/bits.divideError", "math/bits.overflowError"], apart := false, narrowed := true }
def GeomMeetsUptoSaid : Prop := geomMeetsUptoRow.holds Try.pinned (OpenSpec.upto geomMeetsSpec)

/-- 'planispherelaw03.GeomShares', WHERE WHAT IT READS IS OF BULK AT MOST 1048576: true; the input reads as it did. -/
def geomSharesUptoRow : OpenClaim := { program := "ytepfhifogkopcaa", sum := "ad87922fd14d26c6da3077c4bcebfe4254447b5db33061d59c9f4ba364f49d5e", func := "planisphere/planispherelaw03.GeomShares", spec := "geomShares", unfollowed := true, recurses := true, named := ["math/bits.divideError", "math/bits.overflowError"], apart := false, narrowed := true }
def GeomSharesUptoSaid : Prop := geomSharesUptoRow.holds Try.pinned (OpenSpec.upto geomSharesSpec)

/-- 'planispherelaw03.GeomNear', WHERE WHAT IT READS IS OF BULK AT MOST 1048576: true; the input reads as it did. -/
def geomNearUptoRow : OpenClaim := { program := "ytepfhifogkopcaa", sum := "ad87922fd14d26c6da3077c4bcebfe4254447b5db33061d59c9f4ba364f49d5e", func := "planisphere/planispherelaw03.GeomNear", spec := "geomNear", unfollowed := true, recurses := true, named := ["math/bits.divideError", "math/bits.overflowError"], apart := false, narrowed := true }
def GeomNearUptoSaid : Prop := geomNearUptoRow.holds Try.pinned (OpenSpec.upto geomNearSpec)

/-- 'planispherelaw03.GeomRoots', WHERE WHAT IT READS IS OF BULK AT MOST 1048576: true; the input reads as it did. -/
def geomRootsUptoRow : OpenClaim := { program := "ytepfhifogkopcaa", sum := "ad87922fd14d26c6da3077c4bcebfe4254447b5db33061d59c9f4ba364f49d5e", func := "planisphere/planispherelaw03.GeomRoots", spec := "geomRoots", unfollowed := true, recurses := true, named := ["math/bits.divideError", "math/bits.overflowError"], apart := false, narrowed := true }
def GeomRootsUptoSaid : Prop := geomRootsUptoRow.holds Try.pinned (OpenSpec.upto geomRootsSpec)

end Rows
end Go.Proofs.Ytepfhifogkopcaa
