/-
  strings.Builder's copyCheck, WriteByte and WriteString at this dump: the builder that the call itself has made holds the bytes that were written. (Their walks are turned from the worked ones of the library, which its laying does not bring to this dump.)
-/
import Derived.Test.YtfkgjbdeicggaaaGreatRows
import Derived.WalkKit
import Derived.WalkSpells
import Derived.WalkLawsBesides
import Derived.Lib.Builder
import Derived.Lib.AppendStr
import Derived.Laws.Externs
namespace Go.Proofs.YtfkgjbdeicggaaaGreat
open Go.RowKit

theorem info_byte : (Tryz.prog.info? 5).map (fun i => (i.zero, i.size, i.bytes)) = some (some (.int .u8 0), 1, 1) := by kernel_rfl
end Go.Proofs.YtfkgjbdeicggaaaGreat
