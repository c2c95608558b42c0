/- Package variables that are read: the table of TrailingZeros64. -/
import Derived.WalkKit
import Derived.Lib.TrailingZeros
namespace Go.Proofs.YtabdcfcnngnnoaaDoor.E
open Go
/-- What stands where, from the beginning on. -/
def TABS : List (Addr × Value) := ([] : List (Addr × Value)) ++ (Lib.deBruijn64tab.zipIdx.map fun p => (⟨0, p.2, none⟩, .int .u8 ((p.1 : Nat) : Int)))
end Go.Proofs.YtabdcfcnngnnoaaDoor.E
