/- Layer 9: hints, what objects are. -/
import Derived.Test.YtnmnaomfohlmcaaC0
import Derived.Test.YtnmnaomfohlmcaaS0
import Derived.Test.YtnmnaomfohlmcaaProg
set_option linter.unusedVariables false
namespace Go.Proofs.Ytnmnaomfohlmcaa.E
open Go
def Hb : FuncId → FH
  | 5 => { ntok := 4, own := [(3, [0]), (4, [1]), (5, [2]), (7, [3])] }
  | 8 => { ntok := 2, own := [(1, [0]), (10, [1]), (17, [LEND]), (22, [LEND]), (42, [LEND])] }
  | 9 => { ntok := 1, own := [(1, [0])], kill := [(3, [1, 3, 4], [])], past := [(3, [3], [], [2], [0])] }
  | 11 => { ntok := 3, own := [(3, [0]), (6, [1]), (32, [2])] }
  | 13 => { ntok := 2, own := [(2, [0]), (3, [1])], kill := [(4, [2, 3, 5], [])], past := [(4, [], [0, 1], [4], [0, 1])] }
  | 14 => { ntok := 2, own := [(1, [0]), (3, [1])] }
  | 15 => { ntok := 2, own := [(1, [0]), (4, [1])], kill := [(2, [1, 3], [1]), (8, [1, 3, 4, 5], [])], past := [(2, [], [0, 1], [2], [0, 1]), (8, [1, 3], [], [2], [0, 1])] }
  | 16 => { ntok := 0, own := [], kill := [(4, [0, 1, 5], [])], past := [(4, [], [], [4], [])] }
  | 17 => { ntok := 4, own := [(2, [0]), (16, [1]), (18, [2])], nils := [(6, [(6, 3, 1)])], kill := [(6, [2, 5, 6, 7], [])], past := [(6, [6], [0, 1, 2], [4], [0])] }
  | 19 => { ntok := 5, own := [(4, [0]), (8, [1]), (10, [2]), (37, [3]), (47, [4])] }
  | 20 => { ntok := 2, own := [(3, [0]), (8, [1])] }
  | 21 => { ntok := 2, own := [(3, [0]), (8, [1])] }
  | 6 => { ntok := 3, own := [(2, [0]), (3, [1]), (5, [2])], kill := [(12, [3, 5, 7, 8, 9, 10, 11], [])], past := [(12, [3, 5, 7, 8, 10], [], [4], [0, 1, 2])] }
  | 22 => { ntok := 5, own := [(4, [0]), (8, [1]), (10, [2]), (49, [3]), (59, [4])] }
  | 28 => { strong := true }
  | 31 => { ntok := 1, own := [(2, [0])] }
  | 33 => { ntok := 1, own := [(5, [0])], strong := true }
  | 35 => { ntok := 2, own := [(2, [0]), (4, [1])] }
  | 37 => { ntok := 4, own := [(3, [0]), (5, [1]), (6, [2]), (9, [3])] }
  | 39 => { ntok := 0, own := [], kill := [(2, [0, 1, 7, 8], [])], past := [(2, [], [], [4], [])] }
  | 40 => { ntok := 0, own := [], kill := [(2, [0, 1, 7, 8], [])], past := [(2, [], [], [4], [])] }
  | 41 => { ntok := 0, own := [], kill := [(2, [0, 1, 2, 3, 8, 9], [])], past := [(2, [], [], [], [])] }
  | 43 => { ntok := 1, own := [(5, [0])], strong := true }
  | 44 => { ntok := 0, own := [], kill := [(1, [0, 1, 2, 6], []), (4, [0, 1, 2, 6, 7], [])], past := [(1, [], [], [], []), (4, [0, 1, 2, 6], [], [], [])] }
  | _ => {}
def H : FuncId → FH := fun f => if f = 34 then { Hb 34 with prim := some sortP } else if f = 33 then { Hb 33 with prim := some (cloneP 1) } else if f = 43 then { Hb 43 with prim := some (cloneP 2) } else Hb f
structure Obj where
  refs : List Int
  ints : List Int
  deriving DecidableEq, Inhabited
def encO (x : Obj) : List AV := [.sl (x.refs.map encI), .sl (x.ints.map encI)]
end Go.Proofs.Ytnmnaomfohlmcaa.E
