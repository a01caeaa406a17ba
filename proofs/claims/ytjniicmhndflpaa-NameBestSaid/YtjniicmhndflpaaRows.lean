/-
  No cell of these rows narrows 'for every input' (looked for: loops, veiled, ifaces, maps, wideKeys, modest, calm, conditions, laid).
  DERIVED. THE GIVEN ROWS OF THIS SEAT. 3 by the template 'for every input the law returns true; each argument reads behind the call as it read before'; 0 by the template 'total and deterministic' (their statements: YtjniicmhndflpaaTotals.lean).
  GIVEN WITH THE SEED: the statements are not yours to turn. If you find one false, say at which input.
  Laid BY PROGRAM, IN A SANDBOX (cutbox-rows.mjs): the forced cells as the released guide's own fill.sh prints them over the translation 89f8453ae6e07b79… (all of the seat's roots in one cut). By AI agents, Wed Nov 11 2026. No macro, syntax, notation, axiom, sorry.
-/
import Derived.Test.YtjniicmhndflpaaChecked
import GoSem.Claim
import GoSem.ClaimJoined
import GoSem.ClaimMapViews
import Derived.JoinedTies
import Derived.KernelRfl
namespace Go.Proofs.Ytjniicmhndflpaa
/- THE CELL 'sum', in the pinned program and in every row, IS THE sha256 OF THE DUMP (.gsa) THAT YtjniicmhndflpaaProg.lean LOADS. Nothing in Lean hashes anything: it is a label: what it is worth is what the hold of that sum in a sandbox is worth. -/
noncomputable def Try.pinned : Pinned := { name := "ytjniicmhndflpaa", sum := "89f8453ae6e07b79262720573350f8be82daa510f8188ffd2b49f195b15b744b", checked := Try.checked }
namespace Rows
def none {H : Type} : Left H := { results := [], args := [] }

/-- 'planispherelaw18.NameFolds': WHATEVER THE INPUT: true; the input reads as it did. -/
def nameFoldsSpec : ChangeSpec := { name := "nameFolds", fn := fun _ => fun
  | [d] => { results := [.lit (.bool true)], args := [d] }
  | _ => none }
def nameFoldsRow : OpenClaim := { program := "ytjniicmhndflpaa", sum := "89f8453ae6e07b79262720573350f8be82daa510f8188ffd2b49f195b15b744b", func := "planisphere/planispherelaw18.NameFolds", spec := "nameFolds", inPlace := ["internal/bytealg.IndexByteString", "internal/abi.NoEscape", "internal/bytealg.MakeNoZero"], unfollowed := true, recurses := true, apart := false }
def NameFoldsSaid : Prop := nameFoldsRow.holds Try.pinned (OpenSpec.ofChange nameFoldsSpec)

/-- ITS FALSE NEIGHBOUR: 'it returns false'. Refute it at one input. -/
def nameFoldsWrong : ChangeSpec := { name := "nameFolds", fn := fun _ => fun
  | [d] => { results := [.lit (.bool false)], args := [d] }
  | _ => none }
def NameFoldsWrongFalsely : Prop := nameFoldsRow.holds Try.pinned (OpenSpec.ofChange nameFoldsWrong)

/-- 'planispherelaw18.NameLanguages': WHATEVER THE INPUT: true; the input reads as it did. -/
def nameLanguagesSpec : ChangeSpec := { name := "nameLanguages", fn := fun _ => fun
  | [d1, d2] => { results := [.lit (.bool true)], args := [d1, d2] }
  | _ => none }
def nameLanguagesRow : OpenClaim := { program := "ytjniicmhndflpaa", sum := "89f8453ae6e07b79262720573350f8be82daa510f8188ffd2b49f195b15b744b", func := "planisphere/planispherelaw18.NameLanguages", spec := "nameLanguages", inPlace := ["internal/bytealg.IndexByteString", "internal/abi.NoEscape", "internal/bytealg.MakeNoZero"], unfollowed := true, recurses := true, apart := false }
def NameLanguagesSaid : Prop := nameLanguagesRow.holds Try.pinned (OpenSpec.ofChange nameLanguagesSpec)

/-- ITS FALSE NEIGHBOUR: 'it returns false'. Refute it at one input. -/
def nameLanguagesWrong : ChangeSpec := { name := "nameLanguages", fn := fun _ => fun
  | [d1, d2] => { results := [.lit (.bool false)], args := [d1, d2] }
  | _ => none }
def NameLanguagesWrongFalsely : Prop := nameLanguagesRow.holds Try.pinned (OpenSpec.ofChange nameLanguagesWrong)

/-- 'planispherelaw18.NameBest': WHATEVER THE INPUT: true; the input reads as it did. -/
def nameBestSpec : ChangeSpec := { name := "nameBest", fn := fun _ => fun
  | [d1, d2, d3] => { results := [.lit (.bool true)], args := [d1, d2, d3] }
  | _ => none }
def nameBestRow : OpenClaim := { program := "ytjniicmhndflpaa", sum := "89f8453ae6e07b79262720573350f8be82daa510f8188ffd2b49f195b15b744b", func := "planisphere/planispherelaw18.NameBest", spec := "nameBest", inPlace := ["internal/bytealg.IndexByteString", "internal/abi.NoEscape", "internal/bytealg.MakeNoZero"], unfollowed := true, recurses := true, apart := false }
def NameBestSaid : Prop := nameBestRow.holds Try.pinned (OpenSpec.ofChange nameBestSpec)

/-- ITS FALSE NEIGHBOUR: 'it returns false'. Refute it at one input. -/
def nameBestWrong : ChangeSpec := { name := "nameBest", fn := fun _ => fun
  | [d1, d2, d3] => { results := [.lit (.bool false)], args := [d1, d2, d3] }
  | _ => none }
def NameBestWrongFalsely : Prop := nameBestRow.holds Try.pinned (OpenSpec.ofChange nameBestWrong)

/- THE SECOND FORM. 'bulk': how many values and letters a reading holds, each counted each time it is reached (what is shared counts as often as it is met; a slice's spare places count too). A statement '..UptoSaid' is the law's where the arguments, and the package variables that the reading takes, are together of bulk at most 1048576: NARROWER than '..Said'. Prove '..Said' where nothing that the law and all that it calls make is longer than what came in: it says more and counts as full. Else prove '..UptoSaid'. A law counts once. -/
mutual
def uptoBulk {H : Type} : DataW H → Nat
  | .lit (.string bytes) => bytes.length + 1
  | .lit _ => 1
  | .nil => 1
  | .ptr d => uptoBulk d + 1
  | .slice elems spare => uptoBulkAll elems + uptoBulkAll spare + 1
  | .agg parts => uptoBulkAll parts + 1
  | .iface _ d => uptoBulk d + 1
  | .map entries => uptoBulkEntries entries + 1
  | .held _ => 1
def uptoBulkAll {H : Type} : List (DataW H) → Nat
  | [] => 0
  | d :: r => uptoBulk d + uptoBulkAll r
def uptoBulkEntries {H : Type} : List (Lit × DataW H) → Nat
  | [] => 0
  | x :: r => uptoBulkEntry x + uptoBulkEntries r
def uptoBulkEntry {H : Type} : Lit × DataW H → Nat
  | (.string bytes, d) => bytes.length + uptoBulk d + 1
  | (_, d) => uptoBulk d + 1
 end
def uptoSmall : (H : Type) → List (DataW H) → Bool := fun _ ds => decide (uptoBulkAll ds ≤ 1048576)
def OpenSpec.upto (s : _root_.Go.ChangeSpec) : _root_.Go.OpenSpec := { _root_.Go.OpenSpec.ofChange s with cond := some uptoSmall }

/-- 'planispherelaw18.NameFolds', WHERE WHAT IT READS IS OF BULK AT MOST 1048576: true; the input reads as it did. -/
def nameFoldsUptoRow : OpenClaim := { program := "ytjniicmhndflpaa", sum := "89f8453ae6e07b79262720573350f8be82daa510f8188ffd2b49f195b15b744b", func := "planisphere/planispherelaw18.NameFolds", spec := "nameFolds", inPlace := ["internal/bytealg.IndexByteString", "internal/abi.NoEscape", "internal/bytealg.MakeNoZero"], unfollowed := true, recurses := true, apart := false, narrowed := true }
def NameFoldsUptoSaid : Prop := nameFoldsUptoRow.holds Try.pinned (OpenSpec.upto nameFoldsSpec)

/-- 'planispherelaw18.NameLanguages', WHERE WHAT IT READS IS OF BULK AT MOST 1048576: true; the input reads as it did. -/
def nameLanguagesUptoRow : OpenClaim := { program := "ytjniicmhndflpaa", sum := "89f8453ae6e07b79262720573350f8be82daa510f8188ffd2b49f195b15b744b", func := "planisphere/planispherelaw18.NameLanguages", spec := "nameLanguages", inPlace := ["internal/bytealg.IndexByteString", "internal/abi.NoEscape", "internal/bytealg.MakeNoZero"], unfollowed := true, recurses := true, apart := false, narrowed := true }
def NameLanguagesUptoSaid : Prop := nameLanguagesUptoRow.holds Try.pinned (OpenSpec.upto nameLanguagesSpec)

/-- 'planispherelaw18.NameBest', WHERE WHAT IT READS IS OF BULK AT MOST 1048576: true; the input reads as it did. -/
def nameBestUptoRow : OpenClaim := { program := "ytjniicmhndflpaa", sum := "89f8453ae6e07b79262720573350f8be82daa510f8188ffd2b49f195b15b744b", func := "planisphere/planispherelaw18.NameBest", spec := "nameBest", inPlace := ["internal/bytealg.IndexByteString", "internal/abi.NoEscape", "internal/bytealg.MakeNoZero"], unfollowed := true, recurses := true, apart := false, narrowed := true }
def NameBestUptoSaid : Prop := nameBestUptoRow.holds Try.pinned (OpenSpec.upto nameBestSpec)

end Rows
end Go.Proofs.Ytjniicmhndflpaa
