/- Layer 17: hints, what functions and loops come to. -/
import Derived.Test.YthbkemkjkpaoaabE23
import Derived.Test.YthbkemkjkpaoaabProg
set_option linter.unusedVariables false
namespace Go.Proofs.Ythbkemkjkpaoaab.E
open Go
def Hb : FuncId → FH
  | 3 => { ntok := 2, own := [(3, [0]), (15, [1]), (21, [LEND]), (40, [LEND]), (48, [LEND])] }
  | 5 => { ntok := 5, own := [(4, [0]), (12, [1]), (92, [4]), (145, [LEND]), (147, [LEND])], nils := [(11, [(9, 2, 2), (10, 3, 1)])], kill := [(11, [0, 2, 7, 9, 10, 11], [1]), (18, [0, 2, 7, 9, 10, 11, 12, 13, 14], []), (28, [0, 7, 9, 10, 16, 17], []), (31, [0, 7, 9, 10, 16, 17, 18], []), (34, [0, 7, 9, 10, 16, 17, 18, 19], [])], past := [(11, [0, 7, 9, 10], [0, 1], [6], [0, 1]), (18, [0, 2, 7, 9, 10, 11, 12, 13], [], [6], [0, 1]), (28, [0, 7, 9, 10, 16], [], [6], [0, 1]), (31, [0, 7, 9, 10, 16, 17], [], [6], [0, 1]), (34, [0, 7, 9, 10, 16, 17, 18], [], [6], [0, 1])] }
  | 6 => { ntok := 3, own := [(3, [0]), (10, [1]), (39, [LEND]), (49, [LEND])], nils := [(7, [(5, 2, 4)])], kill := [(7, [0, 3, 5, 6], [])], past := [(7, [0, 3, 5], [], [4], [0, 1])] }
  | 7 => { ntok := 1, own := [(3, [0])], kill := [(10, [0, 3, 5, 7, 8, 9], []), (15, [3, 5, 7, 8, 10], [])], past := [(10, [3, 5, 7, 8], [], [4], [0]), (15, [5, 7, 8], [], [4], [0])] }
  | 9 => { ntok := 4, own := [(3, [0]), (11, [1]), (28, [2]), (35, [LEND])], nils := [(7, [(8, 3, 4)])], kill := [(7, [3, 8, 9], [1]), (15, [3, 8, 9, 11, 61, 62], [])], past := [(7, [8], [0, 1, 2], [4, 5], [0, 1, 2]), (15, [3, 8, 9], [], [4, 5], [0, 1])] }
  | 10 => { ntok := 4, own := [(3, [0]), (13, [1]), (112, [LEND, 2])], nils := [(5, [(6, 2, 4), (7, 3, 4)])], kill := [(5, [0, 3, 6, 7, 8], []), (11, [3, 6, 7], [1]), (14, [3, 6, 7, 9, 10], []), (18, [3, 6, 7, 9, 10, 11, 12], []), (29, [3, 6, 7, 13, 14], [])], past := [(5, [3, 6, 7], [], [4, 5], [0, 1, 2, 3]), (11, [7], [0, 1, 2], [4, 5], [0, 1]), (14, [3, 6, 7, 9], [], [4, 5], [0, 1]), (18, [3, 6, 7, 9, 10, 11], [], [4, 5], [0, 1]), (29, [3, 6, 7], [], [4, 5], [0, 1])] }
  | 11 => { ntok := 0, own := [], kill := [(4, [0, 1, 5], [])], past := [(4, [], [], [4], [])] }
  | 12 => { ntok := 2, own := [(6, [0]), (5, [1])], kill := [(3, [3, 7, 8, 9], [1])], past := [(3, [], [0, 1], [2], [0, 1])] }
  | 13 => { ntok := 0, own := [], kill := [(2, [0, 3], []), (7, [0, 3, 4], [])], past := [(2, [], [], [2], []), (7, [0, 3], [], [2], [])] }
  | 14 => { ntok := 0, own := [], kill := [(4, [0, 1, 5], [])], past := [(4, [], [], [4], [])] }
  | 15 => { ntok := 4, own := [(15, [0]), (12, [1]), (14, [2]), (37, [3])], kill := [(3, [0, 1, 2, 7, 8], []), (9, [0, 1, 7, 9, 10], []), (14, [1, 7, 9, 62, 63, 64], [1]), (19, [1, 7, 9, 76, 77, 78], [2])], past := [(3, [0, 1, 2, 7], [], [6], [0, 1, 2]), (9, [0, 1, 7, 9], [], [6], [0, 1, 2]), (14, [1, 7, 9], [1], [6], [0, 1, 2]), (19, [9], [0, 1, 2], [6], [0, 1, 2])] }
  | 16 => { ntok := 3, own := [(17, [0]), (62, [LEND]), (71, [LEND]), (93, [LEND]), (102, [LEND])], nils := [(9, [(9, 1, 2), (10, 2, 1)])], kill := [(3, [0, 1, 2, 7, 8], []), (9, [0, 1, 7, 9, 10, 11], [])], past := [(3, [0, 1, 7], [], [6], []), (9, [7], [1, 2], [6], [])] }
  | 17 => { ntok := 1, own := [(1, [0])], kill := [], past := [] }
  | 18 => { ntok := 1, own := [(3, [0])], kill := [(2, [0, 3, 5], [])], past := [(2, [], [0], [4], [0])] }
  | 19 => { ntok := 1, own := [(2, [0])], kill := [], past := [] }
  | 20 => { ntok := 1, own := [(2, [0])], kill := [], past := [] }
  | 21 => { ntok := 1, own := [(1, [0])], kill := [], past := [] }
  | 22 => { ntok := 1, own := [(2, [0])], kill := [], past := [] }
  | 23 => { ntok := 1, own := [(1, [0])], kill := [], past := [] }
  | 25 => { ntok := 1, own := [(7, [0]), (10, [LEND])], kill := [(5, [0, 1, 5, 6], [0])], past := [(5, [0, 5], [0], [4], [0])] }
  | 26 => { ntok := 1, own := [(5, [0])], strong := true }
  | 27 => { ntok := 3, own := [(6, [0]), (3, [1]), (5, [2])], kill := [(3, [0, 3, 7, 8, 9], [2])], past := [(3, [0, 3], [2], [2], [0, 1, 2])] }
  | 29 => { ntok := 1, own := [(5, [0])] }
  | 30 => { ntok := 1, own := [(3, [0])], kill := [(2, [0, 3, 7, 8], [])], past := [(2, [], [0], [4], [0])] }
  | 31 => { ntok := 1, own := [(3, [0])], kill := [(2, [0, 3, 5], [])], past := [(2, [], [0], [4], [0])] }
  | 32 => { ntok := 0, own := [], kill := [(2, [0, 1, 7, 8], [])], past := [(2, [], [], [4], [])] }
  | 33 => { ntok := 1, own := [(2, [0])], kill := [], past := [] }
  | _ => {}
def H : FuncId → FH := fun f => if f = 26 then { Hb 26 with prim := some (cloneP 4) } else Hb f
structure Loc where
  k : Int
  n : Int
  deriving DecidableEq, Inhabited
structure Mv where
  to : Loc
  fr : Loc
  deriving DecidableEq, Inhabited
def encL (x : Loc) : List AV := [goI x.k, goI x.n]
def encM (m : Mv) : List AV := [goI m.to.k, goI m.to.n, goI m.fr.k, goI m.fr.n]
def keyL (x : Loc) : List Int := [x.k, x.n]
namespace U
def may (a b : Int) : Bool := a == 1 && (decide (b ≥ 0) && decide (b ≤ 31)) || a == 2 && (decide (b ≥ 0) && decide (b ≤ 159))
def mayL (x : Loc) : Bool := may x.k x.n
def to (l : List Mv) (i : Nat) : Loc := (l.getD i default).to
def fr (l : List Mv) (i : Nat) : Loc := (l.getD i default).fr
/-- No earlier one goes to the same place. -/
def newTo (l : List Mv) (i k : Nat) : Bool := allFrom (fun j => !(decide (to l j = to l i))) k i
def right (l : List Mv) (i : Nat) : Bool := allFrom (fun j => mayL (to l j) && mayL (fr l j) && newTo l j 0) i l.length
end U
end Go.Proofs.Ythbkemkjkpaoaab.E
