/- Package variables that are read: the parts of each operation; the table of TrailingZeros64. -/
import Derived.WalkKit
import Derived.Lib.TrailingZeros
namespace Go.Proofs.YtdnekkkpngnmkaaDoor.E
open Go
/-- The parts of each operation, as they stand in the package's variable. -/
def PARTS : List (List UInt8) := [[], [68, 110], [68, 65], [68, 65, 66], [68, 65, 66], [68, 65, 66], [68, 65, 66], [68], [68, 65], [68, 65, 66], [68, 78, 77], [68, 65, 78], [65, 78, 66], [68, 65, 78], [65, 78, 66], [68, 65, 78], [68, 65, 110], [68, 65], [65, 66], [68, 78, 76], [65], [78], [65, 78, 77], [65]]
/-- What stands where, from the beginning on. -/
def TABS : List (Addr × Value) := (PARTS.zipIdx.map fun p => (⟨1, p.2, none⟩, .string ⟨p.1.toArray⟩)) ++ (Lib.deBruijn64tab.zipIdx.map fun p => (⟨0, p.2, none⟩, .int .u8 ((p.1 : Nat) : Int)))
end Go.Proofs.YtdnekkkpngnmkaaDoor.E
