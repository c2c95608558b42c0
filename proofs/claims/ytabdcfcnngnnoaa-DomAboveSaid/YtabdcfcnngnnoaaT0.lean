/- Package variables that are read: none here. -/
import Derived.WalkKit
namespace Go.Proofs.Ytabdcfcnngnnoaa.E
open Go
/-- What stands where, from the beginning on. -/
def TABS : List (Addr × Value) := []
end Go.Proofs.Ytabdcfcnngnnoaa.E
