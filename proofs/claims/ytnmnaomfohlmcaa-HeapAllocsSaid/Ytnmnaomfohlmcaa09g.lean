/- A heap, as it is handed in. -/
import Derived.Test.Ytnmnaomfohlmcaa09f
import Derived.Test.YtnmnaomfohlmcaaEA
set_option linter.unusedVariables false
namespace Go.Proofs.Ytnmnaomfohlmcaa.E
open Go
structure Heap where
  objs : List Obj
def encH (x : Heap) : List AV := [.sl (x.objs.map encO)]
end Go.Proofs.Ytnmnaomfohlmcaa.E
