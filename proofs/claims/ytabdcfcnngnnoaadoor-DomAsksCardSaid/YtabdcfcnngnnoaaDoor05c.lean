/- Functions, by what the evaluator asks; the theorems t.. were printed by show.txt, a program of this session. -/
import Derived.Test.YtabdcfcnngnnoaaDoor05b
set_option linter.unusedVariables false
set_option linter.unusedSectionVars false
set_option linter.unusedSimpArgs false
set_option maxRecDepth 100000
namespace Go.Proofs.YtabdcfcnngnnoaaDoor.E
open Go
set_option maxHeartbeats 4000000

theorem t91 (op : Int) (d : Int) (a : Int) (b : Int) (n : Int) (m : Int) (l : List Int) (r : AV × List Row × List Nat) : (runT Tryd.prog H F82 L0 false 80 [AV.agg [goI op, goI d, goI a, goI b, goI n, goI m, AV.sl (List.map encI l)]] []
 fun q => q = r) = (TB (d == 0)
 (TB (a == 0)
 (TB (b == 0)
 (TB (n == 0)
 (TB (m == 0)
 (TB ((↑(List.length (List.map encI l)) : Int) == 0) ((goB true, [], []) = r)
 (Wf Tryd.prog H 101 [goI op, AV.v (Value.int IntKind.u8 76)] [] = some (goB (U.has op 76), [], []) ∧
 (goB (U.has op 76), [], []) = r))
 (Wf Tryd.prog H 101 [goI op, AV.v (Value.int IntKind.u8 77)] [] = some (goB (U.has op 77), [], []) ∧
 TB (U.has op 77)
 (TB ((↑(List.length (List.map encI l)) : Int) == 0) ((goB true, [], []) = r)
 (Wf Tryd.prog H 101 [goI op, AV.v (Value.int IntKind.u8 76)] [] = some (goB (U.has op 76), [], []) ∧
 (goB (U.has op 76), [], []) = r))
 ((goB false, [], []) = r)))
 (Wf Tryd.prog H 101 [goI op, AV.v (Value.int IntKind.u8 78)] [] = some (goB (U.has op 78), [], []) ∧
 TB (U.has op 78)
 (TB (m == 0)
 (TB ((↑(List.length (List.map encI l)) : Int) == 0) ((goB true, [], []) = r)
 (Wf Tryd.prog H 101 [goI op, AV.v (Value.int IntKind.u8 76)] [] = some (goB (U.has op 76), [], []) ∧
 (goB (U.has op 76), [], []) = r))
 (Wf Tryd.prog H 101 [goI op, AV.v (Value.int IntKind.u8 77)] [] = some (goB (U.has op 77), [], []) ∧
 TB (U.has op 77)
 (TB ((↑(List.length (List.map encI l)) : Int) == 0) ((goB true, [], []) = r)
 (Wf Tryd.prog H 101 [goI op, AV.v (Value.int IntKind.u8 76)] [] = some (goB (U.has op 76), [], []) ∧
 (goB (U.has op 76), [], []) = r))
 ((goB false, [], []) = r)))
 (Wf Tryd.prog H 101 [goI op, AV.v (Value.int IntKind.u8 110)] [] = some (goB (U.has op 110), [], []) ∧
 TB (U.has op 110)
 (TB (m == 0)
 (TB ((↑(List.length (List.map encI l)) : Int) == 0) ((goB true, [], []) = r)
 (Wf Tryd.prog H 101 [goI op, AV.v (Value.int IntKind.u8 76)] [] = some (goB (U.has op 76), [], []) ∧
 (goB (U.has op 76), [], []) = r))
 (Wf Tryd.prog H 101 [goI op, AV.v (Value.int IntKind.u8 77)] [] = some (goB (U.has op 77), [], []) ∧
 TB (U.has op 77)
 (TB ((↑(List.length (List.map encI l)) : Int) == 0) ((goB true, [], []) = r)
 (Wf Tryd.prog H 101 [goI op, AV.v (Value.int IntKind.u8 76)] [] =
 some (goB (U.has op 76), [], []) ∧
 (goB (U.has op 76), [], []) = r))
 ((goB false, [], []) = r)))
 ((goB false, [], []) = r))))
 (Wf Tryd.prog H 101 [goI op, AV.v (Value.int IntKind.u8 66)] [] = some (goB (U.has op 66), [], []) ∧
 TB (U.has op 66)
 (TB (n == 0)
 (TB (m == 0)
 (TB ((↑(List.length (List.map encI l)) : Int) == 0) ((goB true, [], []) = r)
 (Wf Tryd.prog H 101 [goI op, AV.v (Value.int IntKind.u8 76)] [] = some (goB (U.has op 76), [], []) ∧
 (goB (U.has op 76), [], []) = r))
 (Wf Tryd.prog H 101 [goI op, AV.v (Value.int IntKind.u8 77)] [] = some (goB (U.has op 77), [], []) ∧
 TB (U.has op 77)
 (TB ((↑(List.length (List.map encI l)) : Int) == 0) ((goB true, [], []) = r)
 (Wf Tryd.prog H 101 [goI op, AV.v (Value.int IntKind.u8 76)] [] = some (goB (U.has op 76), [], []) ∧
 (goB (U.has op 76), [], []) = r))
 ((goB false, [], []) = r)))
 (Wf Tryd.prog H 101 [goI op, AV.v (Value.int IntKind.u8 78)] [] = some (goB (U.has op 78), [], []) ∧
 TB (U.has op 78)
 (TB (m == 0)
 (TB ((↑(List.length (List.map encI l)) : Int) == 0) ((goB true, [], []) = r)
 (Wf Tryd.prog H 101 [goI op, AV.v (Value.int IntKind.u8 76)] [] = some (goB (U.has op 76), [], []) ∧
 (goB (U.has op 76), [], []) = r))
 (Wf Tryd.prog H 101 [goI op, AV.v (Value.int IntKind.u8 77)] [] = some (goB (U.has op 77), [], []) ∧
 TB (U.has op 77)
 (TB ((↑(List.length (List.map encI l)) : Int) == 0) ((goB true, [], []) = r)
 (Wf Tryd.prog H 101 [goI op, AV.v (Value.int IntKind.u8 76)] [] =
 some (goB (U.has op 76), [], []) ∧
 (goB (U.has op 76), [], []) = r))
 ((goB false, [], []) = r)))
 (Wf Tryd.prog H 101 [goI op, AV.v (Value.int IntKind.u8 110)] [] = some (goB (U.has op 110), [], []) ∧
 TB (U.has op 110)
 (TB (m == 0)
 (TB ((↑(List.length (List.map encI l)) : Int) == 0) ((goB true, [], []) = r)
 (Wf Tryd.prog H 101 [goI op, AV.v (Value.int IntKind.u8 76)] [] =
 some (goB (U.has op 76), [], []) ∧
 (goB (U.has op 76), [], []) = r))
 (Wf Tryd.prog H 101 [goI op, AV.v (Value.int IntKind.u8 77)] [] = some (goB (U.has op 77), [], []) ∧
 TB (U.has op 77)
 (TB ((↑(List.length (List.map encI l)) : Int) == 0) ((goB true, [], []) = r)
 (Wf Tryd.prog H 101 [goI op, AV.v (Value.int IntKind.u8 76)] [] =
 some (goB (U.has op 76), [], []) ∧
 (goB (U.has op 76), [], []) = r))
 ((goB false, [], []) = r)))
 ((goB false, [], []) = r))))
 ((goB false, [], []) = r)))
 (Wf Tryd.prog H 101 [goI op, AV.v (Value.int IntKind.u8 65)] [] = some (goB (U.has op 65), [], []) ∧
 TB (U.has op 65)
 (TB (b == 0)
 (TB (n == 0)
 (TB (m == 0)
 (TB ((↑(List.length (List.map encI l)) : Int) == 0) ((goB true, [], []) = r)
 (Wf Tryd.prog H 101 [goI op, AV.v (Value.int IntKind.u8 76)] [] = some (goB (U.has op 76), [], []) ∧
 (goB (U.has op 76), [], []) = r))
 (Wf Tryd.prog H 101 [goI op, AV.v (Value.int IntKind.u8 77)] [] = some (goB (U.has op 77), [], []) ∧
 TB (U.has op 77)
 (TB ((↑(List.length (List.map encI l)) : Int) == 0) ((goB true, [], []) = r)
 (Wf Tryd.prog H 101 [goI op, AV.v (Value.int IntKind.u8 76)] [] = some (goB (U.has op 76), [], []) ∧
 (goB (U.has op 76), [], []) = r))
 ((goB false, [], []) = r)))
 (Wf Tryd.prog H 101 [goI op, AV.v (Value.int IntKind.u8 78)] [] = some (goB (U.has op 78), [], []) ∧
 TB (U.has op 78)
 (TB (m == 0)
 (TB ((↑(List.length (List.map encI l)) : Int) == 0) ((goB true, [], []) = r)
 (Wf Tryd.prog H 101 [goI op, AV.v (Value.int IntKind.u8 76)] [] = some (goB (U.has op 76), [], []) ∧
 (goB (U.has op 76), [], []) = r))
 (Wf Tryd.prog H 101 [goI op, AV.v (Value.int IntKind.u8 77)] [] = some (goB (U.has op 77), [], []) ∧
 TB (U.has op 77)
 (TB ((↑(List.length (List.map encI l)) : Int) == 0) ((goB true, [], []) = r)
 (Wf Tryd.prog H 101 [goI op, AV.v (Value.int IntKind.u8 76)] [] =
 some (goB (U.has op 76), [], []) ∧
 (goB (U.has op 76), [], []) = r))
 ((goB false, [], []) = r)))
 (Wf Tryd.prog H 101 [goI op, AV.v (Value.int IntKind.u8 110)] [] = some (goB (U.has op 110), [], []) ∧
 TB (U.has op 110)
 (TB (m == 0)
 (TB ((↑(List.length (List.map encI l)) : Int) == 0) ((goB true, [], []) = r)
 (Wf Tryd.prog H 101 [goI op, AV.v (Value.int IntKind.u8 76)] [] =
 some (goB (U.has op 76), [], []) ∧
 (goB (U.has op 76), [], []) = r))
 (Wf Tryd.prog H 101 [goI op, AV.v (Value.int IntKind.u8 77)] [] = some (goB (U.has op 77), [], []) ∧
 TB (U.has op 77)
 (TB ((↑(List.length (List.map encI l)) : Int) == 0) ((goB true, [], []) = r)
 (Wf Tryd.prog H 101 [goI op, AV.v (Value.int IntKind.u8 76)] [] =
 some (goB (U.has op 76), [], []) ∧
 (goB (U.has op 76), [], []) = r))
 ((goB false, [], []) = r)))
 ((goB false, [], []) = r))))
 (Wf Tryd.prog H 101 [goI op, AV.v (Value.int IntKind.u8 66)] [] = some (goB (U.has op 66), [], []) ∧
 TB (U.has op 66)
 (TB (n == 0)
 (TB (m == 0)
 (TB ((↑(List.length (List.map encI l)) : Int) == 0) ((goB true, [], []) = r)
 (Wf Tryd.prog H 101 [goI op, AV.v (Value.int IntKind.u8 76)] [] = some (goB (U.has op 76), [], []) ∧
 (goB (U.has op 76), [], []) = r))
 (Wf Tryd.prog H 101 [goI op, AV.v (Value.int IntKind.u8 77)] [] = some (goB (U.has op 77), [], []) ∧
 TB (U.has op 77)
 (TB ((↑(List.length (List.map encI l)) : Int) == 0) ((goB true, [], []) = r)
 (Wf Tryd.prog H 101 [goI op, AV.v (Value.int IntKind.u8 76)] [] =
 some (goB (U.has op 76), [], []) ∧
 (goB (U.has op 76), [], []) = r))
 ((goB false, [], []) = r)))
 (Wf Tryd.prog H 101 [goI op, AV.v (Value.int IntKind.u8 78)] [] = some (goB (U.has op 78), [], []) ∧
 TB (U.has op 78)
 (TB (m == 0)
 (TB ((↑(List.length (List.map encI l)) : Int) == 0) ((goB true, [], []) = r)
 (Wf Tryd.prog H 101 [goI op, AV.v (Value.int IntKind.u8 76)] [] =
 some (goB (U.has op 76), [], []) ∧
 (goB (U.has op 76), [], []) = r))
 (Wf Tryd.prog H 101 [goI op, AV.v (Value.int IntKind.u8 77)] [] = some (goB (U.has op 77), [], []) ∧
 TB (U.has op 77)
 (TB ((↑(List.length (List.map encI l)) : Int) == 0) ((goB true, [], []) = r)
 (Wf Tryd.prog H 101 [goI op, AV.v (Value.int IntKind.u8 76)] [] =
 some (goB (U.has op 76), [], []) ∧
 (goB (U.has op 76), [], []) = r))
 ((goB false, [], []) = r)))
 (Wf Tryd.prog H 101 [goI op, AV.v (Value.int IntKind.u8 110)] [] = some (goB (U.has op 110), [], []) ∧
 TB (U.has op 110)
 (TB (m == 0)
 (TB ((↑(List.length (List.map encI l)) : Int) == 0) ((goB true, [], []) = r)
 (Wf Tryd.prog H 101 [goI op, AV.v (Value.int IntKind.u8 76)] [] =
 some (goB (U.has op 76), [], []) ∧
 (goB (U.has op 76), [], []) = r))
 (Wf Tryd.prog H 101 [goI op, AV.v (Value.int IntKind.u8 77)] [] =
 some (goB (U.has op 77), [], []) ∧
 TB (U.has op 77)
 (TB ((↑(List.length (List.map encI l)) : Int) == 0) ((goB true, [], []) = r)
 (Wf Tryd.prog H 101 [goI op, AV.v (Value.int IntKind.u8 76)] [] =
 some (goB (U.has op 76), [], []) ∧
 (goB (U.has op 76), [], []) = r))
 ((goB false, [], []) = r)))
 ((goB false, [], []) = r))))
 ((goB false, [], []) = r)))
 ((goB false, [], []) = r)))
 (Wf Tryd.prog H 101 [goI op, AV.v (Value.int IntKind.u8 68)] [] = some (goB (U.has op 68), [], []) ∧
 TB (U.has op 68)
 (TB (a == 0)
 (TB (b == 0)
 (TB (n == 0)
 (TB (m == 0)
 (TB ((↑(List.length (List.map encI l)) : Int) == 0) ((goB true, [], []) = r)
 (Wf Tryd.prog H 101 [goI op, AV.v (Value.int IntKind.u8 76)] [] = some (goB (U.has op 76), [], []) ∧
 (goB (U.has op 76), [], []) = r))
 (Wf Tryd.prog H 101 [goI op, AV.v (Value.int IntKind.u8 77)] [] = some (goB (U.has op 77), [], []) ∧
 TB (U.has op 77)
 (TB ((↑(List.length (List.map encI l)) : Int) == 0) ((goB true, [], []) = r)
 (Wf Tryd.prog H 101 [goI op, AV.v (Value.int IntKind.u8 76)] [] = some (goB (U.has op 76), [], []) ∧
 (goB (U.has op 76), [], []) = r))
 ((goB false, [], []) = r)))
 (Wf Tryd.prog H 101 [goI op, AV.v (Value.int IntKind.u8 78)] [] = some (goB (U.has op 78), [], []) ∧
 TB (U.has op 78)
 (TB (m == 0)
 (TB ((↑(List.length (List.map encI l)) : Int) == 0) ((goB true, [], []) = r)
 (Wf Tryd.prog H 101 [goI op, AV.v (Value.int IntKind.u8 76)] [] = some (goB (U.has op 76), [], []) ∧
 (goB (U.has op 76), [], []) = r))
 (Wf Tryd.prog H 101 [goI op, AV.v (Value.int IntKind.u8 77)] [] = some (goB (U.has op 77), [], []) ∧
 TB (U.has op 77)
 (TB ((↑(List.length (List.map encI l)) : Int) == 0) ((goB true, [], []) = r)
 (Wf Tryd.prog H 101 [goI op, AV.v (Value.int IntKind.u8 76)] [] =
 some (goB (U.has op 76), [], []) ∧
 (goB (U.has op 76), [], []) = r))
 ((goB false, [], []) = r)))
 (Wf Tryd.prog H 101 [goI op, AV.v (Value.int IntKind.u8 110)] [] = some (goB (U.has op 110), [], []) ∧
 TB (U.has op 110)
 (TB (m == 0)
 (TB ((↑(List.length (List.map encI l)) : Int) == 0) ((goB true, [], []) = r)
 (Wf Tryd.prog H 101 [goI op, AV.v (Value.int IntKind.u8 76)] [] =
 some (goB (U.has op 76), [], []) ∧
 (goB (U.has op 76), [], []) = r))
 (Wf Tryd.prog H 101 [goI op, AV.v (Value.int IntKind.u8 77)] [] = some (goB (U.has op 77), [], []) ∧
 TB (U.has op 77)
 (TB ((↑(List.length (List.map encI l)) : Int) == 0) ((goB true, [], []) = r)
 (Wf Tryd.prog H 101 [goI op, AV.v (Value.int IntKind.u8 76)] [] =
 some (goB (U.has op 76), [], []) ∧
 (goB (U.has op 76), [], []) = r))
 ((goB false, [], []) = r)))
 ((goB false, [], []) = r))))
 (Wf Tryd.prog H 101 [goI op, AV.v (Value.int IntKind.u8 66)] [] = some (goB (U.has op 66), [], []) ∧
 TB (U.has op 66)
 (TB (n == 0)
 (TB (m == 0)
 (TB ((↑(List.length (List.map encI l)) : Int) == 0) ((goB true, [], []) = r)
 (Wf Tryd.prog H 101 [goI op, AV.v (Value.int IntKind.u8 76)] [] = some (goB (U.has op 76), [], []) ∧
 (goB (U.has op 76), [], []) = r))
 (Wf Tryd.prog H 101 [goI op, AV.v (Value.int IntKind.u8 77)] [] = some (goB (U.has op 77), [], []) ∧
 TB (U.has op 77)
 (TB ((↑(List.length (List.map encI l)) : Int) == 0) ((goB true, [], []) = r)
 (Wf Tryd.prog H 101 [goI op, AV.v (Value.int IntKind.u8 76)] [] =
 some (goB (U.has op 76), [], []) ∧
 (goB (U.has op 76), [], []) = r))
 ((goB false, [], []) = r)))
 (Wf Tryd.prog H 101 [goI op, AV.v (Value.int IntKind.u8 78)] [] = some (goB (U.has op 78), [], []) ∧
 TB (U.has op 78)
 (TB (m == 0)
 (TB ((↑(List.length (List.map encI l)) : Int) == 0) ((goB true, [], []) = r)
 (Wf Tryd.prog H 101 [goI op, AV.v (Value.int IntKind.u8 76)] [] =
 some (goB (U.has op 76), [], []) ∧
 (goB (U.has op 76), [], []) = r))
 (Wf Tryd.prog H 101 [goI op, AV.v (Value.int IntKind.u8 77)] [] = some (goB (U.has op 77), [], []) ∧
 TB (U.has op 77)
 (TB ((↑(List.length (List.map encI l)) : Int) == 0) ((goB true, [], []) = r)
 (Wf Tryd.prog H 101 [goI op, AV.v (Value.int IntKind.u8 76)] [] =
 some (goB (U.has op 76), [], []) ∧
 (goB (U.has op 76), [], []) = r))
 ((goB false, [], []) = r)))
 (Wf Tryd.prog H 101 [goI op, AV.v (Value.int IntKind.u8 110)] [] = some (goB (U.has op 110), [], []) ∧
 TB (U.has op 110)
 (TB (m == 0)
 (TB ((↑(List.length (List.map encI l)) : Int) == 0) ((goB true, [], []) = r)
 (Wf Tryd.prog H 101 [goI op, AV.v (Value.int IntKind.u8 76)] [] =
 some (goB (U.has op 76), [], []) ∧
 (goB (U.has op 76), [], []) = r))
 (Wf Tryd.prog H 101 [goI op, AV.v (Value.int IntKind.u8 77)] [] =
 some (goB (U.has op 77), [], []) ∧
 TB (U.has op 77)
 (TB ((↑(List.length (List.map encI l)) : Int) == 0) ((goB true, [], []) = r)
 (Wf Tryd.prog H 101 [goI op, AV.v (Value.int IntKind.u8 76)] [] =
 some (goB (U.has op 76), [], []) ∧
 (goB (U.has op 76), [], []) = r))
 ((goB false, [], []) = r)))
 ((goB false, [], []) = r))))
 ((goB false, [], []) = r)))
 (Wf Tryd.prog H 101 [goI op, AV.v (Value.int IntKind.u8 65)] [] = some (goB (U.has op 65), [], []) ∧
 TB (U.has op 65)
 (TB (b == 0)
 (TB (n == 0)
 (TB (m == 0)
 (TB ((↑(List.length (List.map encI l)) : Int) == 0) ((goB true, [], []) = r)
 (Wf Tryd.prog H 101 [goI op, AV.v (Value.int IntKind.u8 76)] [] = some (goB (U.has op 76), [], []) ∧
 (goB (U.has op 76), [], []) = r))
 (Wf Tryd.prog H 101 [goI op, AV.v (Value.int IntKind.u8 77)] [] = some (goB (U.has op 77), [], []) ∧
 TB (U.has op 77)
 (TB ((↑(List.length (List.map encI l)) : Int) == 0) ((goB true, [], []) = r)
 (Wf Tryd.prog H 101 [goI op, AV.v (Value.int IntKind.u8 76)] [] =
 some (goB (U.has op 76), [], []) ∧
 (goB (U.has op 76), [], []) = r))
 ((goB false, [], []) = r)))
 (Wf Tryd.prog H 101 [goI op, AV.v (Value.int IntKind.u8 78)] [] = some (goB (U.has op 78), [], []) ∧
 TB (U.has op 78)
 (TB (m == 0)
 (TB ((↑(List.length (List.map encI l)) : Int) == 0) ((goB true, [], []) = r)
 (Wf Tryd.prog H 101 [goI op, AV.v (Value.int IntKind.u8 76)] [] =
 some (goB (U.has op 76), [], []) ∧
 (goB (U.has op 76), [], []) = r))
 (Wf Tryd.prog H 101 [goI op, AV.v (Value.int IntKind.u8 77)] [] = some (goB (U.has op 77), [], []) ∧
 TB (U.has op 77)
 (TB ((↑(List.length (List.map encI l)) : Int) == 0) ((goB true, [], []) = r)
 (Wf Tryd.prog H 101 [goI op, AV.v (Value.int IntKind.u8 76)] [] =
 some (goB (U.has op 76), [], []) ∧
 (goB (U.has op 76), [], []) = r))
 ((goB false, [], []) = r)))
 (Wf Tryd.prog H 101 [goI op, AV.v (Value.int IntKind.u8 110)] [] = some (goB (U.has op 110), [], []) ∧
 TB (U.has op 110)
 (TB (m == 0)
 (TB ((↑(List.length (List.map encI l)) : Int) == 0) ((goB true, [], []) = r)
 (Wf Tryd.prog H 101 [goI op, AV.v (Value.int IntKind.u8 76)] [] =
 some (goB (U.has op 76), [], []) ∧
 (goB (U.has op 76), [], []) = r))
 (Wf Tryd.prog H 101 [goI op, AV.v (Value.int IntKind.u8 77)] [] =
 some (goB (U.has op 77), [], []) ∧
 TB (U.has op 77)
 (TB ((↑(List.length (List.map encI l)) : Int) == 0) ((goB true, [], []) = r)
 (Wf Tryd.prog H 101 [goI op, AV.v (Value.int IntKind.u8 76)] [] =
 some (goB (U.has op 76), [], []) ∧
 (goB (U.has op 76), [], []) = r))
 ((goB false, [], []) = r)))
 ((goB false, [], []) = r))))
 (Wf Tryd.prog H 101 [goI op, AV.v (Value.int IntKind.u8 66)] [] = some (goB (U.has op 66), [], []) ∧
 TB (U.has op 66)
 (TB (n == 0)
 (TB (m == 0)
 (TB ((↑(List.length (List.map encI l)) : Int) == 0) ((goB true, [], []) = r)
 (Wf Tryd.prog H 101 [goI op, AV.v (Value.int IntKind.u8 76)] [] =
 some (goB (U.has op 76), [], []) ∧
 (goB (U.has op 76), [], []) = r))
 (Wf Tryd.prog H 101 [goI op, AV.v (Value.int IntKind.u8 77)] [] = some (goB (U.has op 77), [], []) ∧
 TB (U.has op 77)
 (TB ((↑(List.length (List.map encI l)) : Int) == 0) ((goB true, [], []) = r)
 (Wf Tryd.prog H 101 [goI op, AV.v (Value.int IntKind.u8 76)] [] =
 some (goB (U.has op 76), [], []) ∧
 (goB (U.has op 76), [], []) = r))
 ((goB false, [], []) = r)))
 (Wf Tryd.prog H 101 [goI op, AV.v (Value.int IntKind.u8 78)] [] = some (goB (U.has op 78), [], []) ∧
 TB (U.has op 78)
 (TB (m == 0)
 (TB ((↑(List.length (List.map encI l)) : Int) == 0) ((goB true, [], []) = r)
 (Wf Tryd.prog H 101 [goI op, AV.v (Value.int IntKind.u8 76)] [] =
 some (goB (U.has op 76), [], []) ∧
 (goB (U.has op 76), [], []) = r))
 (Wf Tryd.prog H 101 [goI op, AV.v (Value.int IntKind.u8 77)] [] =
 some (goB (U.has op 77), [], []) ∧
 TB (U.has op 77)
 (TB ((↑(List.length (List.map encI l)) : Int) == 0) ((goB true, [], []) = r)
 (Wf Tryd.prog H 101 [goI op, AV.v (Value.int IntKind.u8 76)] [] =
 some (goB (U.has op 76), [], []) ∧
 (goB (U.has op 76), [], []) = r))
 ((goB false, [], []) = r)))
 (Wf Tryd.prog H 101 [goI op, AV.v (Value.int IntKind.u8 110)] [] =
 some (goB (U.has op 110), [], []) ∧
 TB (U.has op 110)
 (TB (m == 0)
 (TB ((↑(List.length (List.map encI l)) : Int) == 0) ((goB true, [], []) = r)
 (Wf Tryd.prog H 101 [goI op, AV.v (Value.int IntKind.u8 76)] [] =
 some (goB (U.has op 76), [], []) ∧
 (goB (U.has op 76), [], []) = r))
 (Wf Tryd.prog H 101 [goI op, AV.v (Value.int IntKind.u8 77)] [] =
 some (goB (U.has op 77), [], []) ∧
 TB (U.has op 77)
 (TB ((↑(List.length (List.map encI l)) : Int) == 0) ((goB true, [], []) = r)
 (Wf Tryd.prog H 101 [goI op, AV.v (Value.int IntKind.u8 76)] [] =
 some (goB (U.has op 76), [], []) ∧
 (goB (U.has op 76), [], []) = r))
 ((goB false, [], []) = r)))
 ((goB false, [], []) = r))))
 ((goB false, [], []) = r)))
 ((goB false, [], []) = r)))
 ((goB false, [], []) = r))) := by kernel_rfl
theorem tb_or {w : Prop} (hw : w) (d h : Bool) (X Y : Prop) : TB d X (w ∧ TB h X Y) = TB (d || h) X Y := by
  cases d with
  | true => rfl
  | false => exact propext ⟨fun x => x.2, fun x => ⟨hw, x⟩⟩
theorem tb_last {w : Prop} (hw : w) (d h : Bool) (r : AV × List Row × List Nat) : TB d ((goB true, [], []) = r) (w ∧ (goB h, [], []) = r) = ((goB (d || h), [], []) = r) := by
  cases d with
  | true => rfl
  | false => exact propext ⟨fun x => x.2, fun x => ⟨hw, x⟩⟩
theorem wf91 (x : XI) : Wf Tryd.prog H 80 [.agg (encIn x)] [] = some (goB (U.bare x), [], []) := by
  refine runK (t91 x.op x.d x.a x.b x.n x.m x.args _) ?_
  rw [List.length_map]
  simp only [tb_or (wf81 x.op 68), tb_or (wf81 x.op 65), tb_or (wf81 x.op 66), tb_or (wf81 x.op 78), tb_or (wf81 x.op 110), tb_or (wf81 x.op 77), tb_last (wf81 x.op 76)]
  unfold U.bare
  cases (x.d == 0 || U.has x.op 68) with
  | false => exact rfl
  | true =>
    cases (x.a == 0 || U.has x.op 65) with
    | false => exact rfl
    | true =>
      cases (x.b == 0 || U.has x.op 66) with
      | false => exact rfl
      | true =>
        cases (x.n == 0 || (U.has x.op 78 || U.has x.op 110)) with
        | false => exact rfl
        | true =>
          cases (x.m == 0 || U.has x.op 77) with
          | false => exact rfl
          | true => exact rfl
end Go.Proofs.YtabdcfcnngnnoaaDoor.E
