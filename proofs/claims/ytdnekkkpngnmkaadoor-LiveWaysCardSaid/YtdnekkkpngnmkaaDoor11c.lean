/- Functions, by what the evaluator asks; the theorems t.. were printed by show.txt, a program of this session. -/
import Derived.Test.YtdnekkkpngnmkaaDoor11b
set_option linter.unusedVariables false
set_option linter.unusedSimpArgs false
set_option maxRecDepth 100000
namespace Go.Proofs.YtdnekkkpngnmkaaDoor.E
open Go
def F10 (g : Bool) (n : Int) : CallT := fun f args sto => match f, args with
 | 43, _ => .is (goB g, [], [])
 | 44, _ => .is (goI n, [], [])
 | _, _ => .no
def F3 (o : Bool) (w m : List Int) (sd : Bool) (d : Int) (us : List Int) (s : Bool) (x y : List Int) (k1 k2 : Nat) : CallT := fun f args sto => match f with
 | 9 => .is (goB true, [], [])
 | 10 => .is (goB o, [], [])
 | 11 => .is (.sl (w.map encU), [], [])
 | 15 => .is (.sl (m.map encU), [], [])
 | 12 => .by sd (.is (.tup [goI d, goB true], [], [])) (.is (.tup [goI 0, goB false], [], []))
 | 17 => .by s (.is (.os 0 0 us.length, [.arr 1 (us.map encI)], [])) (.is (.nil, [], []))
 | 13 => .is (.os 0 0 k1, [.arr 1 (x.map encU)], [])
 | 16 => .is (.os 0 0 k2, [.arr 1 (y.map encU)], [])
 | 14 => .is (goB true, [], [])
 | _ => .no
set_option maxHeartbeats 4000000

theorem t10 (a : List XF) (k : Int) (g : Bool) (n : Int) (r : AV × List Row × List Nat) : (runT Tryd.prog H (F10 g n) (fun id st => LT.is (Ex.exit 0) (mkS 44 [(1, AV.pt 0 0 0), (3, goI k)] (St.sto st))) false 10
 [AV.agg [AV.sl (List.map encF a)]] [] fun q => q = r) = (LoopTo Tryd.prog H (H 10) 0 (loopOf Tryd.prog 10 3)
 (mkS 44 [(1, AV.pt 0 0 0), (3, goI 0), (4, goI 0)] [Row.box [AV.sl (List.map encF a)]])
 (Ex.exit 0, mkS 44 [(1, AV.pt 0 0 0), (3, goI k)] [Row.box [AV.sl (List.map encF a)]]) ∧
 TB (decide (k > 16)) ((goB true, [], []) = r)
 (Wf Tryd.prog H 43 [AV.agg [AV.sl (List.map encF a)]] [] = some (goB g, [], []) ∧
 TB g ((goB true, [], []) = r)
 (Wf Tryd.prog H 44 [AV.agg [AV.sl (List.map encF a)]] [] = some (goI n, [], []) ∧ (goB !n == 0, [], []) = r))) := by kernel_rfl
theorem t10_3 (a : List XF) (n : Int) (i : Nat) (r : Ex × St) : (turnT Tryd.prog H (fun f args sto => CT.of (F0 f args sto)) L0 false (H 10) 0 (loopOf Tryd.prog 10 3)
 (mkS 44 [(1, AV.pt 0 0 0), (3, goI n), (4, goI (↑i : Int))] [Row.box [AV.sl (List.map encF a)]]) r) = (TB (decide ((↑i : Int) < (↑(List.length (List.map encF a)) : Int)))
 (TB (decide ((↑i : Int) < 9))
 ((0 ≤ (↑i : Int) ∧
 (List.map encF a)[i]? =
 some
 [AV.sl (rdL (rowAt (List.map encF a) i) 0), AV.sl (rdL (rowAt (List.map encF a) i) 1),
 goI (rdI (rowAt (List.map encF a) i) 2), goI (rdI (rowAt (List.map encF a) i) 3),
 AV.sl (rdL (rowAt (List.map encF a) i) 4)]) ∧
 (0 ≤ (↑i : Int) ∧
 (List.map encF a)[i]? =
 some
 [AV.sl (rdL (rowAt (List.map encF a) i) 0), AV.sl (rdL (rowAt (List.map encF a) i) 1),
 goI (rdI (rowAt (List.map encF a) i) 2), goI (rdI (rowAt (List.map encF a) i) 3),
 AV.sl (rdL (rowAt (List.map encF a) i) 4)]) ∧
 iz 2 ≠ 0 ∧
 LoopTo Tryd.prog H (H 10) 0 (loopOf Tryd.prog 10 3)
 (mkS 44
 [(1, AV.pt 0 0 0),
 (3,
 goI
 (if true = true then
 if
 (if true = true then
 if n < (↑(List.length (rdL (rowAt (List.map encF a) i) 4)) : Int) then
 (↑(List.length (rdL (rowAt (List.map encF a) i) 4)) : Int)
 else n
 else
 if (↑(List.length (rdL (rowAt (List.map encF a) i) 4)) : Int) < n then
 (↑(List.length (rdL (rowAt (List.map encF a) i) 4)) : Int)
 else n) <
 IntKind.wrap IntKind.i64
 (Int.tdiv (↑(List.length (rdL (rowAt (List.map encF a) i) 0)) : Int) 2) then
 IntKind.wrap IntKind.i64 (Int.tdiv (↑(List.length (rdL (rowAt (List.map encF a) i) 0)) : Int) 2)
 else
 if true = true then
 if n < (↑(List.length (rdL (rowAt (List.map encF a) i) 4)) : Int) then
 (↑(List.length (rdL (rowAt (List.map encF a) i) 4)) : Int)
 else n
 else
 if (↑(List.length (rdL (rowAt (List.map encF a) i) 4)) : Int) < n then
 (↑(List.length (rdL (rowAt (List.map encF a) i) 4)) : Int)
 else n
 else
 if
 IntKind.wrap IntKind.i64
 (Int.tdiv (↑(List.length (rdL (rowAt (List.map encF a) i) 0)) : Int) 2) <
 if true = true then
 if n < (↑(List.length (rdL (rowAt (List.map encF a) i) 4)) : Int) then
 (↑(List.length (rdL (rowAt (List.map encF a) i) 4)) : Int)
 else n
 else
 if (↑(List.length (rdL (rowAt (List.map encF a) i) 4)) : Int) < n then
 (↑(List.length (rdL (rowAt (List.map encF a) i) 4)) : Int)
 else n then
 IntKind.wrap IntKind.i64 (Int.tdiv (↑(List.length (rdL (rowAt (List.map encF a) i) 0)) : Int) 2)
 else
 if true = true then
 if n < (↑(List.length (rdL (rowAt (List.map encF a) i) 4)) : Int) then
 (↑(List.length (rdL (rowAt (List.map encF a) i) 4)) : Int)
 else n
 else
 if (↑(List.length (rdL (rowAt (List.map encF a) i) 4)) : Int) < n then
 (↑(List.length (rdL (rowAt (List.map encF a) i) 4)) : Int)
 else n)),
 (4, goI (IntKind.wrap IntKind.i64 ((↑i : Int) + 1)))]
 [Row.box [AV.sl (List.map encF a)]])
 r)
 ((Ex.exit 0, mkS 44 [(1, AV.pt 0 0 0), (3, goI n)] [Row.box [AV.sl (List.map encF a)]]) = r))
 ((Ex.exit 0, mkS 44 [(1, AV.pt 0 0 0), (3, goI n)] [Row.box [AV.sl (List.map encF a)]]) = r)) := by kernel_rfl
theorem t3 (a : List XF) (u : Int) (v : Int) (o : Bool) (r : AV × List Row × List Nat) : (runT Tryd.prog H (F3 o [] [] false 0 [] false [] [] 0 0)
 (fun id st => LT.is (Ex.exit 0) (mkS 80 [] [Row.dead, Row.dead, Row.dead])) false 3
 [AV.agg [AV.sl (List.map encF a)], AV.v (Value.int IntKind.u8 u), AV.v (Value.int IntKind.u8 v)] [] fun q => q = r) = (Wf Tryd.prog H 9 [] [] = some (goB true, [], []) ∧
 Wf Tryd.prog H 10 [AV.agg [AV.sl (List.map encF a)]] [] = some (goB o, [], []) ∧
 TB o ((goB true, [], []) = r)
 (LoopTo Tryd.prog H (H 3) 0 (loopOf Tryd.prog 3 6)
 (mkS 80 [(1, AV.v (Value.int IntKind.u8 u)), (2, AV.v (Value.int IntKind.u8 v)), (3, AV.pt 0 0 0), (7, goI 0)]
 [Row.box [AV.sl (List.map encF a)], Row.dead, Row.dead])
 (Ex.exit 0, mkS 80 [] [Row.dead, Row.dead, Row.dead]) ∧
 (goB true, [], []) = r)) := by kernel_rfl
theorem t3_6 (a : List XF) (u : Int) (v : Int) (i : Nat) (w : List Int) (m : List Int) (sd : Bool) (d : Int) (us : List Int) (s : Bool) (x : List Int) (y : List Int) (k1 : Nat) (k2 : Nat) (r : Ex × St) : (turnT Tryd.prog H (F3 false w m sd d us s x y k1 k2) L0 false (H 3) 0 (loopOf Tryd.prog 3 6)
 (mkS 80
 [(1, AV.v (Value.int IntKind.u8 u)), (2, AV.v (Value.int IntKind.u8 v)), (3, AV.pt 0 0 0), (7, goI (↑i : Int))]
 [Row.box [AV.sl (List.map encF a)], Row.dead, Row.dead])
 r) = (TB (decide ((↑i : Int) < (↑(List.length (List.map encF a)) : Int)))
 ((0 ≤ (↑i : Int) ∧
 (List.map encF a)[i]? =
 some
 [AV.sl (rdL (rowAt (List.map encF a) i) 0), AV.sl (rdL (rowAt (List.map encF a) i) 1),
 goI (rdI (rowAt (List.map encF a) i) 2), goI (rdI (rowAt (List.map encF a) i) 3),
 AV.sl (rdL (rowAt (List.map encF a) i) 4)]) ∧
 (↑(List.length (rdL (rowAt (List.map encF a) i) 4)) : Int) ≠ 0 ∧
 (0 ≤ Int.tmod (IntKind.wrap IntKind.i64 u) (↑(List.length (rdL (rowAt (List.map encF a) i) 4)) : Int) ∧
 (rdL (rowAt (List.map encF a) i)
 4)[Int.toNat
 (Int.tmod (IntKind.wrap IntKind.i64 u) (↑(List.length (rdL (rowAt (List.map encF a) i) 4)) : Int))]? =
 some
 [AV.sl
 (rdL
 (rowAt (rdL (rowAt (List.map encF a) i) 4)
 (Int.toNat
 (Int.tmod (IntKind.wrap IntKind.i64 u)
 (↑(List.length (rdL (rowAt (List.map encF a) i) 4)) : Int))))
 0)]) ∧
 (↑(List.length
 (rdL
 (rowAt (rdL (rowAt (List.map encF a) i) 4)
 (Int.toNat
 (Int.tmod (IntKind.wrap IntKind.i64 u)
 (↑(List.length (rdL (rowAt (List.map encF a) i) 4)) : Int))))
 0)) :
 Int) ≠
 0 ∧
 (0 ≤ Int.tmod (IntKind.wrap IntKind.i64 u) (↑(List.length (rdL (rowAt (List.map encF a) i) 4)) : Int) ∧
 (rdL (rowAt (List.map encF a) i)
 4)[Int.toNat
 (Int.tmod (IntKind.wrap IntKind.i64 u)
 (↑(List.length (rdL (rowAt (List.map encF a) i) 4)) : Int))]? =
 some
 [AV.sl
 (rdL
 (rowAt (rdL (rowAt (List.map encF a) i) 4)
 (Int.toNat
 (Int.tmod (IntKind.wrap IntKind.i64 u)
 (↑(List.length (rdL (rowAt (List.map encF a) i) 4)) : Int))))
 0)]) ∧
 (0 ≤
 Int.tmod (IntKind.wrap IntKind.i64 v)
 (↑(List.length
 (rdL
 (rowAt (rdL (rowAt (List.map encF a) i) 4)
 (Int.toNat
 (Int.tmod (IntKind.wrap IntKind.i64 u)
 (↑(List.length (rdL (rowAt (List.map encF a) i) 4)) : Int))))
 0)) :
 Int) ∧
 (rdL
 (rowAt (rdL (rowAt (List.map encF a) i) 4)
 (Int.toNat
 (Int.tmod (IntKind.wrap IntKind.i64 u)
 (↑(List.length (rdL (rowAt (List.map encF a) i) 4)) : Int))))
 0)[Int.toNat
 (Int.tmod (IntKind.wrap IntKind.i64 v)
 (↑(List.length
 (rdL
 (rowAt (rdL (rowAt (List.map encF a) i) 4)
 (Int.toNat
 (Int.tmod (IntKind.wrap IntKind.i64 u)
 (↑(List.length (rdL (rowAt (List.map encF a) i) 4)) : Int))))
 0)) :
 Int))]? =
 some
 [goI
 (rdI
 (rowAt
 (rdL
 (rowAt (rdL (rowAt (List.map encF a) i) 4)
 (Int.toNat
 (Int.tmod (IntKind.wrap IntKind.i64 u)
 (↑(List.length (rdL (rowAt (List.map encF a) i) 4)) : Int))))
 0)
 (Int.toNat
 (Int.tmod (IntKind.wrap IntKind.i64 v)
 (↑(List.length
 (rdL
 (rowAt (rdL (rowAt (List.map encF a) i) 4)
 (Int.toNat
 (Int.tmod (IntKind.wrap IntKind.i64 u)
 (↑(List.length (rdL (rowAt (List.map encF a) i) 4)) : Int))))
 0)) :
 Int))))
 0),
 goI
 (rdI
 (rowAt
 (rdL
 (rowAt (rdL (rowAt (List.map encF a) i) 4)
 (Int.toNat
 (Int.tmod (IntKind.wrap IntKind.i64 u)
 (↑(List.length (rdL (rowAt (List.map encF a) i) 4)) : Int))))
 0)
 (Int.toNat
 (Int.tmod (IntKind.wrap IntKind.i64 v)
 (↑(List.length
 (rdL
 (rowAt (rdL (rowAt (List.map encF a) i) 4)
 (Int.toNat
 (Int.tmod (IntKind.wrap IntKind.i64 u)
 (↑(List.length (rdL (rowAt (List.map encF a) i) 4)) : Int))))
 0)) :
 Int))))
 1),
 goI
 (rdI
 (rowAt
 (rdL
 (rowAt (rdL (rowAt (List.map encF a) i) 4)
 (Int.toNat
 (Int.tmod (IntKind.wrap IntKind.i64 u)
 (↑(List.length (rdL (rowAt (List.map encF a) i) 4)) : Int))))
 0)
 (Int.toNat
 (Int.tmod (IntKind.wrap IntKind.i64 v)
 (↑(List.length
 (rdL
 (rowAt (rdL (rowAt (List.map encF a) i) 4)
 (Int.toNat
 (Int.tmod (IntKind.wrap IntKind.i64 u)
 (↑(List.length (rdL (rowAt (List.map encF a) i) 4)) : Int))))
 0)) :
 Int))))
 2),
 goI
 (rdI
 (rowAt
 (rdL
 (rowAt (rdL (rowAt (List.map encF a) i) 4)
 (Int.toNat
 (Int.tmod (IntKind.wrap IntKind.i64 u)
 (↑(List.length (rdL (rowAt (List.map encF a) i) 4)) : Int))))
 0)
 (Int.toNat
 (Int.tmod (IntKind.wrap IntKind.i64 v)
 (↑(List.length
 (rdL
 (rowAt (rdL (rowAt (List.map encF a) i) 4)
 (Int.toNat
 (Int.tmod (IntKind.wrap IntKind.i64 u)
 (↑(List.length (rdL (rowAt (List.map encF a) i) 4)) : Int))))
 0)) :
 Int))))
 3),
 goI
 (rdI
 (rowAt
 (rdL
 (rowAt (rdL (rowAt (List.map encF a) i) 4)
 (Int.toNat
 (Int.tmod (IntKind.wrap IntKind.i64 u)
 (↑(List.length (rdL (rowAt (List.map encF a) i) 4)) : Int))))
 0)
 (Int.toNat
 (Int.tmod (IntKind.wrap IntKind.i64 v)
 (↑(List.length
 (rdL
 (rowAt (rdL (rowAt (List.map encF a) i) 4)
 (Int.toNat
 (Int.tmod (IntKind.wrap IntKind.i64 u)
 (↑(List.length (rdL (rowAt (List.map encF a) i) 4)) : Int))))
 0)) :
 Int))))
 4),
 goI
 (rdI
 (rowAt
 (rdL
 (rowAt (rdL (rowAt (List.map encF a) i) 4)
 (Int.toNat
 (Int.tmod (IntKind.wrap IntKind.i64 u)
 (↑(List.length (rdL (rowAt (List.map encF a) i) 4)) : Int))))
 0)
 (Int.toNat
 (Int.tmod (IntKind.wrap IntKind.i64 v)
 (↑(List.length
 (rdL
 (rowAt (rdL (rowAt (List.map encF a) i) 4)
 (Int.toNat
 (Int.tmod (IntKind.wrap IntKind.i64 u)
 (↑(List.length (rdL (rowAt (List.map encF a) i) 4)) : Int))))
 0)) :
 Int))))
 5),
 AV.sl
 (rdL
 (rowAt
 (rdL
 (rowAt (rdL (rowAt (List.map encF a) i) 4)
 (Int.toNat
 (Int.tmod (IntKind.wrap IntKind.i64 u)
 (↑(List.length (rdL (rowAt (List.map encF a) i) 4)) : Int))))
 0)
 (Int.toNat
 (Int.tmod (IntKind.wrap IntKind.i64 v)
 (↑(List.length
 (rdL
 (rowAt (rdL (rowAt (List.map encF a) i) 4)
 (Int.toNat
 (Int.tmod (IntKind.wrap IntKind.i64 u)
 (↑(List.length (rdL (rowAt (List.map encF a) i) 4)) : Int))))
 0)) :
 Int))))
 6)]) ∧
 Wf Tryd.prog H 11
 [AV.agg
 [AV.sl (rdL (rowAt (List.map encF a) i) 0), AV.sl (rdL (rowAt (List.map encF a) i) 1),
 goI (rdI (rowAt (List.map encF a) i) 2), goI (rdI (rowAt (List.map encF a) i) 3),
 AV.sl (rdL (rowAt (List.map encF a) i) 4)],
 goI
 (Int.tmod (IntKind.wrap IntKind.i64 u)
 (↑(List.length (rdL (rowAt (List.map encF a) i) 4)) : Int)),
 goI
 (Int.tmod (IntKind.wrap IntKind.i64 v)
 (↑(List.length
 (rdL
 (rowAt (rdL (rowAt (List.map encF a) i) 4)
 (Int.toNat
 (Int.tmod (IntKind.wrap IntKind.i64 u)
 (↑(List.length (rdL (rowAt (List.map encF a) i) 4)) : Int))))
 0)) :
 Int))]
 [] =
 some (AV.sl (List.map encU w), [], []) ∧
 TB sd
 (Wf Tryd.prog H 12
 [AV.agg
 [goI
 (rdI
 (rowAt
 (rdL
 (rowAt (rdL (rowAt (List.map encF a) i) 4)
 (Int.toNat
 (Int.tmod (IntKind.wrap IntKind.i64 u)
 (↑(List.length (rdL (rowAt (List.map encF a) i) 4)) : Int))))
 0)
 (Int.toNat
 (Int.tmod (IntKind.wrap IntKind.i64 v)
 (↑(List.length
 (rdL
 (rowAt (rdL (rowAt (List.map encF a) i) 4)
 (Int.toNat
 (Int.tmod (IntKind.wrap IntKind.i64 u)
 (↑(List.length (rdL (rowAt (List.map encF a) i) 4)) : Int))))
 0)) :
 Int))))
 0),
 goI
 (rdI
 (rowAt
 (rdL
 (rowAt (rdL (rowAt (List.map encF a) i) 4)
 (Int.toNat
 (Int.tmod (IntKind.wrap IntKind.i64 u)
 (↑(List.length (rdL (rowAt (List.map encF a) i) 4)) : Int))))
 0)
 (Int.toNat
 (Int.tmod (IntKind.wrap IntKind.i64 v)
 (↑(List.length
 (rdL
 (rowAt (rdL (rowAt (List.map encF a) i) 4)
 (Int.toNat
 (Int.tmod (IntKind.wrap IntKind.i64 u)
 (↑(List.length (rdL (rowAt (List.map encF a) i) 4)) : Int))))
 0)) :
 Int))))
 1),
 goI
 (rdI
 (rowAt
 (rdL
 (rowAt (rdL (rowAt (List.map encF a) i) 4)
 (Int.toNat
 (Int.tmod (IntKind.wrap IntKind.i64 u)
 (↑(List.length (rdL (rowAt (List.map encF a) i) 4)) : Int))))
 0)
 (Int.toNat
 (Int.tmod (IntKind.wrap IntKind.i64 v)
 (↑(List.length
 (rdL
 (rowAt (rdL (rowAt (List.map encF a) i) 4)
 (Int.toNat
 (Int.tmod (IntKind.wrap IntKind.i64 u)
 (↑(List.length (rdL (rowAt (List.map encF a) i) 4)) : Int))))
 0)) :
 Int))))
 2),
 goI
 (rdI
 (rowAt
 (rdL
 (rowAt (rdL (rowAt (List.map encF a) i) 4)
 (Int.toNat
 (Int.tmod (IntKind.wrap IntKind.i64 u)
 (↑(List.length (rdL (rowAt (List.map encF a) i) 4)) : Int))))
 0)
 (Int.toNat
 (Int.tmod (IntKind.wrap IntKind.i64 v)
 (↑(List.length
 (rdL
 (rowAt (rdL (rowAt (List.map encF a) i) 4)
 (Int.toNat
 (Int.tmod (IntKind.wrap IntKind.i64 u)
 (↑(List.length (rdL (rowAt (List.map encF a) i) 4)) : Int))))
 0)) :
 Int))))
 3),
 goI
 (rdI
 (rowAt
 (rdL
 (rowAt (rdL (rowAt (List.map encF a) i) 4)
 (Int.toNat
 (Int.tmod (IntKind.wrap IntKind.i64 u)
 (↑(List.length (rdL (rowAt (List.map encF a) i) 4)) : Int))))
 0)
 (Int.toNat
 (Int.tmod (IntKind.wrap IntKind.i64 v)
 (↑(List.length
 (rdL
 (rowAt (rdL (rowAt (List.map encF a) i) 4)
 (Int.toNat
 (Int.tmod (IntKind.wrap IntKind.i64 u)
 (↑(List.length (rdL (rowAt (List.map encF a) i) 4)) : Int))))
 0)) :
 Int))))
 4),
 goI
 (rdI
 (rowAt
 (rdL
 (rowAt (rdL (rowAt (List.map encF a) i) 4)
 (Int.toNat
 (Int.tmod (IntKind.wrap IntKind.i64 u)
 (↑(List.length (rdL (rowAt (List.map encF a) i) 4)) : Int))))
 0)
 (Int.toNat
 (Int.tmod (IntKind.wrap IntKind.i64 v)
 (↑(List.length
 (rdL
 (rowAt (rdL (rowAt (List.map encF a) i) 4)
 (Int.toNat
 (Int.tmod (IntKind.wrap IntKind.i64 u)
 (↑(List.length (rdL (rowAt (List.map encF a) i) 4)) : Int))))
 0)) :
 Int))))
 5),
 AV.sl
 (rdL
 (rowAt
 (rdL
 (rowAt (rdL (rowAt (List.map encF a) i) 4)
 (Int.toNat
 (Int.tmod (IntKind.wrap IntKind.i64 u)
 (↑(List.length (rdL (rowAt (List.map encF a) i) 4)) : Int))))
 0)
 (Int.toNat
 (Int.tmod (IntKind.wrap IntKind.i64 v)
 (↑(List.length
 (rdL
 (rowAt (rdL (rowAt (List.map encF a) i) 4)
 (Int.toNat
 (Int.tmod (IntKind.wrap IntKind.i64 u)
 (↑(List.length (rdL (rowAt (List.map encF a) i) 4)) : Int))))
 0)) :
 Int))))
 6)]]
 [] =
 some (AV.tup [goI d, goB true], [], []) ∧
 Wf Tryd.prog H 13 [AV.sl (List.map encU w), AV.sl [[goI d]]] [] =
 some (AV.os 0 0 k1, [Row.arr 1 (List.map encU x)], []) ∧
 Wf Tryd.prog H 15
 [AV.agg
 [AV.sl (rdL (rowAt (List.map encF a) i) 0), AV.sl (rdL (rowAt (List.map encF a) i) 1),
 goI (rdI (rowAt (List.map encF a) i) 2), goI (rdI (rowAt (List.map encF a) i) 3),
 AV.sl (rdL (rowAt (List.map encF a) i) 4)],
 goI
 (Int.tmod (IntKind.wrap IntKind.i64 u)
 (↑(List.length (rdL (rowAt (List.map encF a) i) 4)) : Int)),
 goI
 (Int.tmod (IntKind.wrap IntKind.i64 v)
 (↑(List.length
 (rdL
 (rowAt (rdL (rowAt (List.map encF a) i) 4)
 (Int.toNat
 (Int.tmod (IntKind.wrap IntKind.i64 u)
 (↑(List.length (rdL (rowAt (List.map encF a) i) 4)) : Int))))
 0)) :
 Int))]
 [] =
 some (AV.sl (List.map encU m), [], []) ∧
 TB s
 (Wf Tryd.prog H 17
 [AV.agg
 [goI
 (rdI
 (rowAt
 (rdL
 (rowAt (rdL (rowAt (List.map encF a) i) 4)
 (Int.toNat
 (Int.tmod (IntKind.wrap IntKind.i64 u)
 (↑(List.length (rdL (rowAt (List.map encF a) i) 4)) : Int))))
 0)
 (Int.toNat
 (Int.tmod (IntKind.wrap IntKind.i64 v)
 (↑(List.length
 (rdL
 (rowAt (rdL (rowAt (List.map encF a) i) 4)
 (Int.toNat
 (Int.tmod (IntKind.wrap IntKind.i64 u)
 (↑(List.length (rdL (rowAt (List.map encF a) i) 4)) :
 Int))))
 0)) :
 Int))))
 0),
 goI
 (rdI
 (rowAt
 (rdL
 (rowAt (rdL (rowAt (List.map encF a) i) 4)
 (Int.toNat
 (Int.tmod (IntKind.wrap IntKind.i64 u)
 (↑(List.length (rdL (rowAt (List.map encF a) i) 4)) : Int))))
 0)
 (Int.toNat
 (Int.tmod (IntKind.wrap IntKind.i64 v)
 (↑(List.length
 (rdL
 (rowAt (rdL (rowAt (List.map encF a) i) 4)
 (Int.toNat
 (Int.tmod (IntKind.wrap IntKind.i64 u)
 (↑(List.length (rdL (rowAt (List.map encF a) i) 4)) :
 Int))))
 0)) :
 Int))))
 1),
 goI
 (rdI
 (rowAt
 (rdL
 (rowAt (rdL (rowAt (List.map encF a) i) 4)
 (Int.toNat
 (Int.tmod (IntKind.wrap IntKind.i64 u)
 (↑(List.length (rdL (rowAt (List.map encF a) i) 4)) : Int))))
 0)
 (Int.toNat
 (Int.tmod (IntKind.wrap IntKind.i64 v)
 (↑(List.length
 (rdL
 (rowAt (rdL (rowAt (List.map encF a) i) 4)
 (Int.toNat
 (Int.tmod (IntKind.wrap IntKind.i64 u)
 (↑(List.length (rdL (rowAt (List.map encF a) i) 4)) :
 Int))))
 0)) :
 Int))))
 2),
 goI
 (rdI
 (rowAt
 (rdL
 (rowAt (rdL (rowAt (List.map encF a) i) 4)
 (Int.toNat
 (Int.tmod (IntKind.wrap IntKind.i64 u)
 (↑(List.length (rdL (rowAt (List.map encF a) i) 4)) : Int))))
 0)
 (Int.toNat
 (Int.tmod (IntKind.wrap IntKind.i64 v)
 (↑(List.length
 (rdL
 (rowAt (rdL (rowAt (List.map encF a) i) 4)
 (Int.toNat
 (Int.tmod (IntKind.wrap IntKind.i64 u)
 (↑(List.length (rdL (rowAt (List.map encF a) i) 4)) :
 Int))))
 0)) :
 Int))))
 3),
 goI
 (rdI
 (rowAt
 (rdL
 (rowAt (rdL (rowAt (List.map encF a) i) 4)
 (Int.toNat
 (Int.tmod (IntKind.wrap IntKind.i64 u)
 (↑(List.length (rdL (rowAt (List.map encF a) i) 4)) : Int))))
 0)
 (Int.toNat
 (Int.tmod (IntKind.wrap IntKind.i64 v)
 (↑(List.length
 (rdL
 (rowAt (rdL (rowAt (List.map encF a) i) 4)
 (Int.toNat
 (Int.tmod (IntKind.wrap IntKind.i64 u)
 (↑(List.length (rdL (rowAt (List.map encF a) i) 4)) :
 Int))))
 0)) :
 Int))))
 4),
 goI
 (rdI
 (rowAt
 (rdL
 (rowAt (rdL (rowAt (List.map encF a) i) 4)
 (Int.toNat
 (Int.tmod (IntKind.wrap IntKind.i64 u)
 (↑(List.length (rdL (rowAt (List.map encF a) i) 4)) : Int))))
 0)
 (Int.toNat
 (Int.tmod (IntKind.wrap IntKind.i64 v)
 (↑(List.length
 (rdL
 (rowAt (rdL (rowAt (List.map encF a) i) 4)
 (Int.toNat
 (Int.tmod (IntKind.wrap IntKind.i64 u)
 (↑(List.length (rdL (rowAt (List.map encF a) i) 4)) :
 Int))))
 0)) :
 Int))))
 5),
 AV.sl
 (rdL
 (rowAt
 (rdL
 (rowAt (rdL (rowAt (List.map encF a) i) 4)
 (Int.toNat
 (Int.tmod (IntKind.wrap IntKind.i64 u)
 (↑(List.length (rdL (rowAt (List.map encF a) i) 4)) : Int))))
 0)
 (Int.toNat
 (Int.tmod (IntKind.wrap IntKind.i64 v)
 (↑(List.length
 (rdL
 (rowAt (rdL (rowAt (List.map encF a) i) 4)
 (Int.toNat
 (Int.tmod (IntKind.wrap IntKind.i64 u)
 (↑(List.length (rdL (rowAt (List.map encF a) i) 4)) :
 Int))))
 0)) :
 Int))))
 6)]]
 [] =
 some (AV.os 0 0 (List.length us), [Row.arr 1 (List.map encI us)], []) ∧
 Wf Tryd.prog H 16
 [AV.sl (List.take k1 (List.drop 0 (List.map encU x))),
 AV.sl (List.take (List.length us) (List.drop 0 (List.map encI us)))]
 [] =
 some (AV.os 0 0 k2, [Row.arr 1 (List.map encU y)], []) ∧
 Wf Tryd.prog H 14
 [AV.sl (List.map encU m), AV.sl (List.take k2 (List.drop 0 (List.map encU y)))] [] =
 some (goB true, [], []) ∧
 LoopTo Tryd.prog H (H 3) 0 (loopOf Tryd.prog 3 6)
 (mkS 80
 [(1, AV.v (Value.int IntKind.u8 u)), (2, AV.v (Value.int IntKind.u8 v)),
 (3, AV.pt 0 0 0), (7, goI (IntKind.wrap IntKind.i64 ((↑i : Int) + 1)))]
 [Row.box [AV.sl (List.map encF a)], Row.dead, Row.dead])
 r)
 (Wf Tryd.prog H 17
 [AV.agg
 [goI
 (rdI
 (rowAt
 (rdL
 (rowAt (rdL (rowAt (List.map encF a) i) 4)
 (Int.toNat
 (Int.tmod (IntKind.wrap IntKind.i64 u)
 (↑(List.length (rdL (rowAt (List.map encF a) i) 4)) : Int))))
 0)
 (Int.toNat
 (Int.tmod (IntKind.wrap IntKind.i64 v)
 (↑(List.length
 (rdL
 (rowAt (rdL (rowAt (List.map encF a) i) 4)
 (Int.toNat
 (Int.tmod (IntKind.wrap IntKind.i64 u)
 (↑(List.length (rdL (rowAt (List.map encF a) i) 4)) :
 Int))))
 0)) :
 Int))))
 0),
 goI
 (rdI
 (rowAt
 (rdL
 (rowAt (rdL (rowAt (List.map encF a) i) 4)
 (Int.toNat
 (Int.tmod (IntKind.wrap IntKind.i64 u)
 (↑(List.length (rdL (rowAt (List.map encF a) i) 4)) : Int))))
 0)
 (Int.toNat
 (Int.tmod (IntKind.wrap IntKind.i64 v)
 (↑(List.length
 (rdL
 (rowAt (rdL (rowAt (List.map encF a) i) 4)
 (Int.toNat
 (Int.tmod (IntKind.wrap IntKind.i64 u)
 (↑(List.length (rdL (rowAt (List.map encF a) i) 4)) :
 Int))))
 0)) :
 Int))))
 1),
 goI
 (rdI
 (rowAt
 (rdL
 (rowAt (rdL (rowAt (List.map encF a) i) 4)
 (Int.toNat
 (Int.tmod (IntKind.wrap IntKind.i64 u)
 (↑(List.length (rdL (rowAt (List.map encF a) i) 4)) : Int))))
 0)
 (Int.toNat
 (Int.tmod (IntKind.wrap IntKind.i64 v)
 (↑(List.length
 (rdL
 (rowAt (rdL (rowAt (List.map encF a) i) 4)
 (Int.toNat
 (Int.tmod (IntKind.wrap IntKind.i64 u)
 (↑(List.length (rdL (rowAt (List.map encF a) i) 4)) :
 Int))))
 0)) :
 Int))))
 2),
 goI
 (rdI
 (rowAt
 (rdL
 (rowAt (rdL (rowAt (List.map encF a) i) 4)
 (Int.toNat
 (Int.tmod (IntKind.wrap IntKind.i64 u)
 (↑(List.length (rdL (rowAt (List.map encF a) i) 4)) : Int))))
 0)
 (Int.toNat
 (Int.tmod (IntKind.wrap IntKind.i64 v)
 (↑(List.length
 (rdL
 (rowAt (rdL (rowAt (List.map encF a) i) 4)
 (Int.toNat
 (Int.tmod (IntKind.wrap IntKind.i64 u)
 (↑(List.length (rdL (rowAt (List.map encF a) i) 4)) :
 Int))))
 0)) :
 Int))))
 3),
 goI
 (rdI
 (rowAt
 (rdL
 (rowAt (rdL (rowAt (List.map encF a) i) 4)
 (Int.toNat
 (Int.tmod (IntKind.wrap IntKind.i64 u)
 (↑(List.length (rdL (rowAt (List.map encF a) i) 4)) : Int))))
 0)
 (Int.toNat
 (Int.tmod (IntKind.wrap IntKind.i64 v)
 (↑(List.length
 (rdL
 (rowAt (rdL (rowAt (List.map encF a) i) 4)
 (Int.toNat
 (Int.tmod (IntKind.wrap IntKind.i64 u)
 (↑(List.length (rdL (rowAt (List.map encF a) i) 4)) :
 Int))))
 0)) :
 Int))))
 4),
 goI
 (rdI
 (rowAt
 (rdL
 (rowAt (rdL (rowAt (List.map encF a) i) 4)
 (Int.toNat
 (Int.tmod (IntKind.wrap IntKind.i64 u)
 (↑(List.length (rdL (rowAt (List.map encF a) i) 4)) : Int))))
 0)
 (Int.toNat
 (Int.tmod (IntKind.wrap IntKind.i64 v)
 (↑(List.length
 (rdL
 (rowAt (rdL (rowAt (List.map encF a) i) 4)
 (Int.toNat
 (Int.tmod (IntKind.wrap IntKind.i64 u)
 (↑(List.length (rdL (rowAt (List.map encF a) i) 4)) :
 Int))))
 0)) :
 Int))))
 5),
 AV.sl
 (rdL
 (rowAt
 (rdL
 (rowAt (rdL (rowAt (List.map encF a) i) 4)
 (Int.toNat
 (Int.tmod (IntKind.wrap IntKind.i64 u)
 (↑(List.length (rdL (rowAt (List.map encF a) i) 4)) : Int))))
 0)
 (Int.toNat
 (Int.tmod (IntKind.wrap IntKind.i64 v)
 (↑(List.length
 (rdL
 (rowAt (rdL (rowAt (List.map encF a) i) 4)
 (Int.toNat
 (Int.tmod (IntKind.wrap IntKind.i64 u)
 (↑(List.length (rdL (rowAt (List.map encF a) i) 4)) :
 Int))))
 0)) :
 Int))))
 6)]]
 [] =
 some (AV.nil, [], []) ∧
 Wf Tryd.prog H 16 [AV.sl (List.take k1 (List.drop 0 (List.map encU x))), AV.sl []] [] =
 some (AV.os 0 0 k2, [Row.arr 1 (List.map encU y)], []) ∧
 Wf Tryd.prog H 14
 [AV.sl (List.map encU m), AV.sl (List.take k2 (List.drop 0 (List.map encU y)))] [] =
 some (goB true, [], []) ∧
 LoopTo Tryd.prog H (H 3) 0 (loopOf Tryd.prog 3 6)
 (mkS 80
 [(1, AV.v (Value.int IntKind.u8 u)), (2, AV.v (Value.int IntKind.u8 v)),
 (3, AV.pt 0 0 0), (7, goI (IntKind.wrap IntKind.i64 ((↑i : Int) + 1)))]
 [Row.box [AV.sl (List.map encF a)], Row.dead, Row.dead])
 r))
 (Wf Tryd.prog H 12
 [AV.agg
 [goI
 (rdI
 (rowAt
 (rdL
 (rowAt (rdL (rowAt (List.map encF a) i) 4)
 (Int.toNat
 (Int.tmod (IntKind.wrap IntKind.i64 u)
 (↑(List.length (rdL (rowAt (List.map encF a) i) 4)) : Int))))
 0)
 (Int.toNat
 (Int.tmod (IntKind.wrap IntKind.i64 v)
 (↑(List.length
 (rdL
 (rowAt (rdL (rowAt (List.map encF a) i) 4)
 (Int.toNat
 (Int.tmod (IntKind.wrap IntKind.i64 u)
 (↑(List.length (rdL (rowAt (List.map encF a) i) 4)) : Int))))
 0)) :
 Int))))
 0),
 goI
 (rdI
 (rowAt
 (rdL
 (rowAt (rdL (rowAt (List.map encF a) i) 4)
 (Int.toNat
 (Int.tmod (IntKind.wrap IntKind.i64 u)
 (↑(List.length (rdL (rowAt (List.map encF a) i) 4)) : Int))))
 0)
 (Int.toNat
 (Int.tmod (IntKind.wrap IntKind.i64 v)
 (↑(List.length
 (rdL
 (rowAt (rdL (rowAt (List.map encF a) i) 4)
 (Int.toNat
 (Int.tmod (IntKind.wrap IntKind.i64 u)
 (↑(List.length (rdL (rowAt (List.map encF a) i) 4)) : Int))))
 0)) :
 Int))))
 1),
 goI
 (rdI
 (rowAt
 (rdL
 (rowAt (rdL (rowAt (List.map encF a) i) 4)
 (Int.toNat
 (Int.tmod (IntKind.wrap IntKind.i64 u)
 (↑(List.length (rdL (rowAt (List.map encF a) i) 4)) : Int))))
 0)
 (Int.toNat
 (Int.tmod (IntKind.wrap IntKind.i64 v)
 (↑(List.length
 (rdL
 (rowAt (rdL (rowAt (List.map encF a) i) 4)
 (Int.toNat
 (Int.tmod (IntKind.wrap IntKind.i64 u)
 (↑(List.length (rdL (rowAt (List.map encF a) i) 4)) : Int))))
 0)) :
 Int))))
 2),
 goI
 (rdI
 (rowAt
 (rdL
 (rowAt (rdL (rowAt (List.map encF a) i) 4)
 (Int.toNat
 (Int.tmod (IntKind.wrap IntKind.i64 u)
 (↑(List.length (rdL (rowAt (List.map encF a) i) 4)) : Int))))
 0)
 (Int.toNat
 (Int.tmod (IntKind.wrap IntKind.i64 v)
 (↑(List.length
 (rdL
 (rowAt (rdL (rowAt (List.map encF a) i) 4)
 (Int.toNat
 (Int.tmod (IntKind.wrap IntKind.i64 u)
 (↑(List.length (rdL (rowAt (List.map encF a) i) 4)) : Int))))
 0)) :
 Int))))
 3),
 goI
 (rdI
 (rowAt
 (rdL
 (rowAt (rdL (rowAt (List.map encF a) i) 4)
 (Int.toNat
 (Int.tmod (IntKind.wrap IntKind.i64 u)
 (↑(List.length (rdL (rowAt (List.map encF a) i) 4)) : Int))))
 0)
 (Int.toNat
 (Int.tmod (IntKind.wrap IntKind.i64 v)
 (↑(List.length
 (rdL
 (rowAt (rdL (rowAt (List.map encF a) i) 4)
 (Int.toNat
 (Int.tmod (IntKind.wrap IntKind.i64 u)
 (↑(List.length (rdL (rowAt (List.map encF a) i) 4)) : Int))))
 0)) :
 Int))))
 4),
 goI
 (rdI
 (rowAt
 (rdL
 (rowAt (rdL (rowAt (List.map encF a) i) 4)
 (Int.toNat
 (Int.tmod (IntKind.wrap IntKind.i64 u)
 (↑(List.length (rdL (rowAt (List.map encF a) i) 4)) : Int))))
 0)
 (Int.toNat
 (Int.tmod (IntKind.wrap IntKind.i64 v)
 (↑(List.length
 (rdL
 (rowAt (rdL (rowAt (List.map encF a) i) 4)
 (Int.toNat
 (Int.tmod (IntKind.wrap IntKind.i64 u)
 (↑(List.length (rdL (rowAt (List.map encF a) i) 4)) : Int))))
 0)) :
 Int))))
 5),
 AV.sl
 (rdL
 (rowAt
 (rdL
 (rowAt (rdL (rowAt (List.map encF a) i) 4)
 (Int.toNat
 (Int.tmod (IntKind.wrap IntKind.i64 u)
 (↑(List.length (rdL (rowAt (List.map encF a) i) 4)) : Int))))
 0)
 (Int.toNat
 (Int.tmod (IntKind.wrap IntKind.i64 v)
 (↑(List.length
 (rdL
 (rowAt (rdL (rowAt (List.map encF a) i) 4)
 (Int.toNat
 (Int.tmod (IntKind.wrap IntKind.i64 u)
 (↑(List.length (rdL (rowAt (List.map encF a) i) 4)) : Int))))
 0)) :
 Int))))
 6)]]
 [] =
 some (AV.tup [goI 0, goB false], [], []) ∧
 Wf Tryd.prog H 15
 [AV.agg
 [AV.sl (rdL (rowAt (List.map encF a) i) 0), AV.sl (rdL (rowAt (List.map encF a) i) 1),
 goI (rdI (rowAt (List.map encF a) i) 2), goI (rdI (rowAt (List.map encF a) i) 3),
 AV.sl (rdL (rowAt (List.map encF a) i) 4)],
 goI
 (Int.tmod (IntKind.wrap IntKind.i64 u)
 (↑(List.length (rdL (rowAt (List.map encF a) i) 4)) : Int)),
 goI
 (Int.tmod (IntKind.wrap IntKind.i64 v)
 (↑(List.length
 (rdL
 (rowAt (rdL (rowAt (List.map encF a) i) 4)
 (Int.toNat
 (Int.tmod (IntKind.wrap IntKind.i64 u)
 (↑(List.length (rdL (rowAt (List.map encF a) i) 4)) : Int))))
 0)) :
 Int))]
 [] =
 some (AV.sl (List.map encU m), [], []) ∧
 TB s
 (Wf Tryd.prog H 17
 [AV.agg
 [goI
 (rdI
 (rowAt
 (rdL
 (rowAt (rdL (rowAt (List.map encF a) i) 4)
 (Int.toNat
 (Int.tmod (IntKind.wrap IntKind.i64 u)
 (↑(List.length (rdL (rowAt (List.map encF a) i) 4)) : Int))))
 0)
 (Int.toNat
 (Int.tmod (IntKind.wrap IntKind.i64 v)
 (↑(List.length
 (rdL
 (rowAt (rdL (rowAt (List.map encF a) i) 4)
 (Int.toNat
 (Int.tmod (IntKind.wrap IntKind.i64 u)
 (↑(List.length (rdL (rowAt (List.map encF a) i) 4)) :
 Int))))
 0)) :
 Int))))
 0),
 goI
 (rdI
 (rowAt
 (rdL
 (rowAt (rdL (rowAt (List.map encF a) i) 4)
 (Int.toNat
 (Int.tmod (IntKind.wrap IntKind.i64 u)
 (↑(List.length (rdL (rowAt (List.map encF a) i) 4)) : Int))))
 0)
 (Int.toNat
 (Int.tmod (IntKind.wrap IntKind.i64 v)
 (↑(List.length
 (rdL
 (rowAt (rdL (rowAt (List.map encF a) i) 4)
 (Int.toNat
 (Int.tmod (IntKind.wrap IntKind.i64 u)
 (↑(List.length (rdL (rowAt (List.map encF a) i) 4)) :
 Int))))
 0)) :
 Int))))
 1),
 goI
 (rdI
 (rowAt
 (rdL
 (rowAt (rdL (rowAt (List.map encF a) i) 4)
 (Int.toNat
 (Int.tmod (IntKind.wrap IntKind.i64 u)
 (↑(List.length (rdL (rowAt (List.map encF a) i) 4)) : Int))))
 0)
 (Int.toNat
 (Int.tmod (IntKind.wrap IntKind.i64 v)
 (↑(List.length
 (rdL
 (rowAt (rdL (rowAt (List.map encF a) i) 4)
 (Int.toNat
 (Int.tmod (IntKind.wrap IntKind.i64 u)
 (↑(List.length (rdL (rowAt (List.map encF a) i) 4)) :
 Int))))
 0)) :
 Int))))
 2),
 goI
 (rdI
 (rowAt
 (rdL
 (rowAt (rdL (rowAt (List.map encF a) i) 4)
 (Int.toNat
 (Int.tmod (IntKind.wrap IntKind.i64 u)
 (↑(List.length (rdL (rowAt (List.map encF a) i) 4)) : Int))))
 0)
 (Int.toNat
 (Int.tmod (IntKind.wrap IntKind.i64 v)
 (↑(List.length
 (rdL
 (rowAt (rdL (rowAt (List.map encF a) i) 4)
 (Int.toNat
 (Int.tmod (IntKind.wrap IntKind.i64 u)
 (↑(List.length (rdL (rowAt (List.map encF a) i) 4)) :
 Int))))
 0)) :
 Int))))
 3),
 goI
 (rdI
 (rowAt
 (rdL
 (rowAt (rdL (rowAt (List.map encF a) i) 4)
 (Int.toNat
 (Int.tmod (IntKind.wrap IntKind.i64 u)
 (↑(List.length (rdL (rowAt (List.map encF a) i) 4)) : Int))))
 0)
 (Int.toNat
 (Int.tmod (IntKind.wrap IntKind.i64 v)
 (↑(List.length
 (rdL
 (rowAt (rdL (rowAt (List.map encF a) i) 4)
 (Int.toNat
 (Int.tmod (IntKind.wrap IntKind.i64 u)
 (↑(List.length (rdL (rowAt (List.map encF a) i) 4)) :
 Int))))
 0)) :
 Int))))
 4),
 goI
 (rdI
 (rowAt
 (rdL
 (rowAt (rdL (rowAt (List.map encF a) i) 4)
 (Int.toNat
 (Int.tmod (IntKind.wrap IntKind.i64 u)
 (↑(List.length (rdL (rowAt (List.map encF a) i) 4)) : Int))))
 0)
 (Int.toNat
 (Int.tmod (IntKind.wrap IntKind.i64 v)
 (↑(List.length
 (rdL
 (rowAt (rdL (rowAt (List.map encF a) i) 4)
 (Int.toNat
 (Int.tmod (IntKind.wrap IntKind.i64 u)
 (↑(List.length (rdL (rowAt (List.map encF a) i) 4)) :
 Int))))
 0)) :
 Int))))
 5),
 AV.sl
 (rdL
 (rowAt
 (rdL
 (rowAt (rdL (rowAt (List.map encF a) i) 4)
 (Int.toNat
 (Int.tmod (IntKind.wrap IntKind.i64 u)
 (↑(List.length (rdL (rowAt (List.map encF a) i) 4)) : Int))))
 0)
 (Int.toNat
 (Int.tmod (IntKind.wrap IntKind.i64 v)
 (↑(List.length
 (rdL
 (rowAt (rdL (rowAt (List.map encF a) i) 4)
 (Int.toNat
 (Int.tmod (IntKind.wrap IntKind.i64 u)
 (↑(List.length (rdL (rowAt (List.map encF a) i) 4)) :
 Int))))
 0)) :
 Int))))
 6)]]
 [] =
 some (AV.os 0 0 (List.length us), [Row.arr 1 (List.map encI us)], []) ∧
 Wf Tryd.prog H 16
 [AV.sl (List.map encU w),
 AV.sl (List.take (List.length us) (List.drop 0 (List.map encI us)))]
 [] =
 some (AV.os 0 0 k2, [Row.arr 1 (List.map encU y)], []) ∧
 Wf Tryd.prog H 14
 [AV.sl (List.map encU m), AV.sl (List.take k2 (List.drop 0 (List.map encU y)))] [] =
 some (goB true, [], []) ∧
 LoopTo Tryd.prog H (H 3) 0 (loopOf Tryd.prog 3 6)
 (mkS 80
 [(1, AV.v (Value.int IntKind.u8 u)), (2, AV.v (Value.int IntKind.u8 v)),
 (3, AV.pt 0 0 0), (7, goI (IntKind.wrap IntKind.i64 ((↑i : Int) + 1)))]
 [Row.box [AV.sl (List.map encF a)], Row.dead, Row.dead])
 r)
 (Wf Tryd.prog H 17
 [AV.agg
 [goI
 (rdI
 (rowAt
 (rdL
 (rowAt (rdL (rowAt (List.map encF a) i) 4)
 (Int.toNat
 (Int.tmod (IntKind.wrap IntKind.i64 u)
 (↑(List.length (rdL (rowAt (List.map encF a) i) 4)) : Int))))
 0)
 (Int.toNat
 (Int.tmod (IntKind.wrap IntKind.i64 v)
 (↑(List.length
 (rdL
 (rowAt (rdL (rowAt (List.map encF a) i) 4)
 (Int.toNat
 (Int.tmod (IntKind.wrap IntKind.i64 u)
 (↑(List.length (rdL (rowAt (List.map encF a) i) 4)) :
 Int))))
 0)) :
 Int))))
 0),
 goI
 (rdI
 (rowAt
 (rdL
 (rowAt (rdL (rowAt (List.map encF a) i) 4)
 (Int.toNat
 (Int.tmod (IntKind.wrap IntKind.i64 u)
 (↑(List.length (rdL (rowAt (List.map encF a) i) 4)) : Int))))
 0)
 (Int.toNat
 (Int.tmod (IntKind.wrap IntKind.i64 v)
 (↑(List.length
 (rdL
 (rowAt (rdL (rowAt (List.map encF a) i) 4)
 (Int.toNat
 (Int.tmod (IntKind.wrap IntKind.i64 u)
 (↑(List.length (rdL (rowAt (List.map encF a) i) 4)) :
 Int))))
 0)) :
 Int))))
 1),
 goI
 (rdI
 (rowAt
 (rdL
 (rowAt (rdL (rowAt (List.map encF a) i) 4)
 (Int.toNat
 (Int.tmod (IntKind.wrap IntKind.i64 u)
 (↑(List.length (rdL (rowAt (List.map encF a) i) 4)) : Int))))
 0)
 (Int.toNat
 (Int.tmod (IntKind.wrap IntKind.i64 v)
 (↑(List.length
 (rdL
 (rowAt (rdL (rowAt (List.map encF a) i) 4)
 (Int.toNat
 (Int.tmod (IntKind.wrap IntKind.i64 u)
 (↑(List.length (rdL (rowAt (List.map encF a) i) 4)) :
 Int))))
 0)) :
 Int))))
 2),
 goI
 (rdI
 (rowAt
 (rdL
 (rowAt (rdL (rowAt (List.map encF a) i) 4)
 (Int.toNat
 (Int.tmod (IntKind.wrap IntKind.i64 u)
 (↑(List.length (rdL (rowAt (List.map encF a) i) 4)) : Int))))
 0)
 (Int.toNat
 (Int.tmod (IntKind.wrap IntKind.i64 v)
 (↑(List.length
 (rdL
 (rowAt (rdL (rowAt (List.map encF a) i) 4)
 (Int.toNat
 (Int.tmod (IntKind.wrap IntKind.i64 u)
 (↑(List.length (rdL (rowAt (List.map encF a) i) 4)) :
 Int))))
 0)) :
 Int))))
 3),
 goI
 (rdI
 (rowAt
 (rdL
 (rowAt (rdL (rowAt (List.map encF a) i) 4)
 (Int.toNat
 (Int.tmod (IntKind.wrap IntKind.i64 u)
 (↑(List.length (rdL (rowAt (List.map encF a) i) 4)) : Int))))
 0)
 (Int.toNat
 (Int.tmod (IntKind.wrap IntKind.i64 v)
 (↑(List.length
 (rdL
 (rowAt (rdL (rowAt (List.map encF a) i) 4)
 (Int.toNat
 (Int.tmod (IntKind.wrap IntKind.i64 u)
 (↑(List.length (rdL (rowAt (List.map encF a) i) 4)) :
 Int))))
 0)) :
 Int))))
 4),
 goI
 (rdI
 (rowAt
 (rdL
 (rowAt (rdL (rowAt (List.map encF a) i) 4)
 (Int.toNat
 (Int.tmod (IntKind.wrap IntKind.i64 u)
 (↑(List.length (rdL (rowAt (List.map encF a) i) 4)) : Int))))
 0)
 (Int.toNat
 (Int.tmod (IntKind.wrap IntKind.i64 v)
 (↑(List.length
 (rdL
 (rowAt (rdL (rowAt (List.map encF a) i) 4)
 (Int.toNat
 (Int.tmod (IntKind.wrap IntKind.i64 u)
 (↑(List.length (rdL (rowAt (List.map encF a) i) 4)) :
 Int))))
 0)) :
 Int))))
 5),
 AV.sl
 (rdL
 (rowAt
 (rdL
 (rowAt (rdL (rowAt (List.map encF a) i) 4)
 (Int.toNat
 (Int.tmod (IntKind.wrap IntKind.i64 u)
 (↑(List.length (rdL (rowAt (List.map encF a) i) 4)) : Int))))
 0)
 (Int.toNat
 (Int.tmod (IntKind.wrap IntKind.i64 v)
 (↑(List.length
 (rdL
 (rowAt (rdL (rowAt (List.map encF a) i) 4)
 (Int.toNat
 (Int.tmod (IntKind.wrap IntKind.i64 u)
 (↑(List.length (rdL (rowAt (List.map encF a) i) 4)) :
 Int))))
 0)) :
 Int))))
 6)]]
 [] =
 some (AV.nil, [], []) ∧
 Wf Tryd.prog H 16 [AV.sl (List.map encU w), AV.sl []] [] =
 some (AV.os 0 0 k2, [Row.arr 1 (List.map encU y)], []) ∧
 Wf Tryd.prog H 14
 [AV.sl (List.map encU m), AV.sl (List.take k2 (List.drop 0 (List.map encU y)))] [] =
 some (goB true, [], []) ∧
 LoopTo Tryd.prog H (H 3) 0 (loopOf Tryd.prog 3 6)
 (mkS 80
 [(1, AV.v (Value.int IntKind.u8 u)), (2, AV.v (Value.int IntKind.u8 v)),
 (3, AV.pt 0 0 0), (7, goI (IntKind.wrap IntKind.i64 ((↑i : Int) + 1)))]
 [Row.box [AV.sl (List.map encF a)], Row.dead, Row.dead])
 r)))
 ((Ex.exit 0, mkS 80 [] [Row.dead, Row.dead, Row.dead]) = r)) := by kernel_rfl
theorem upI_mem {n : Nat} {x : Int} : x ∈ upI 0 n ↔ 0 ≤ x ∧ x < n := by
  unfold upI
  rw [List.mem_map]
  constructor
  · rintro ⟨y, hy, rfl⟩
    rw [List.mem_range'_1] at hy
    omega
  · intro h
    exact ⟨x.toNat, by rw [List.mem_range'_1]; omega, by omega⟩
theorem rep_getD (n b : Nat) : (List.replicate n ([] : List Int)).getD b [] = [] := by
  rw [List.getD_eq_getElem?_getD, List.getElem?_replicate]; split <;> rfl
theorem LenA_rep (n : Nat) : LenA (List.replicate n []) := fun l hl => by rw [(List.mem_replicate.1 hl).2]; simp
theorem LInv_init (bl : List XB) : LInv bl (List.replicate bl.length []) (List.replicate bl.length []) ((upI 0 bl.length).take (upI 0 bl.length).length) := by
  rw [List.take_length]
  refine ⟨by simp, by simp, fun l hl => ?_, fun l hl => ?_, fun l hl => ?_, fun x hx => upI_mem.1 hx, fun b v hv => ?_, fun b v hv => ?_, fun b hb v hv => ?_, fun b hb hq => ?_⟩
  · rw [(List.mem_replicate.1 hl).2]; exact Bit.Wd.nil
  · rw [(List.mem_replicate.1 hl).2]; exact Bit.Wd.nil
  · rw [(List.mem_replicate.1 hl).2]; rfl
  · rw [rep_getD, Bit.tb_nil] at hv; cases hv
  · rw [rep_getD, Bit.tb_nil] at hv; cases hv
  · rw [rep_getD, Bit.tb_nil] at hv; cases hv
  · exact absurd (upI_mem.2 ⟨by omega, by omega⟩) hq
theorem wv47 (ks bs : List (List AV)) (p q : Int) (bl : List XB) (hc : CodeOk bl) (hn : bl.length ≤ 16) (hx : ∀ b ∈ bl, ∀ x ∈ b.code, InsIn x) (hu : UsesOk bl) :
    ∃ out inn, Wf Tryd.prog H 47 [.agg [.sl ks, .sl bs, goI p, goI q, .sl (bl.map encB)]] [] = some (.os 0 0 out.length, [.arr 1 (out.map encL)], []) ∧ LInv bl inn out [] ∧ LenA inn ∧ LenA out := by
  obtain ⟨out, inn, h9, hI, hA, hO⟩ := loopv47_9 ks bs p q bl hc hn hx hu _ (List.replicate bl.length []) (List.replicate bl.length []) (upI 0 bl.length) (upI 0 bl.length).length (Nat.le_refl _) (LInv_init bl) (LenA_rep _) (LenA_rep _) (Nat.le_refl _) (by rw [upI_len]; have := mu_le bl.length (List.replicate bl.length []); omega)
  have h5 := loopv47_5 ks bs p q bl (List.replicate bl.length []) (List.replicate bl.length []) bl.length bl.length bl.length (by omega) bl.length 0 [] (by omega) rfl
  rw [List.nil_append] at h5
  refine ⟨out, inn, runK (v47 ks bs p q bl (upI 0 bl.length) out _) ?_, hI, hA, hO⟩
  simp only [List.length_map, List.length_replicate, weak_rep] at h9 ⊢
  exact ⟨⟨by omega, by omega, by omega⟩, ⟨by omega, by omega, by omega⟩, ⟨by decide, by omega, by omega⟩, h5, h9, by trivial⟩
namespace U
def there (bl : List XB) (b i : Int) : Bool := decide (b ≥ 0) && (decide (b < (bl.length : Int)) && (decide (i ≥ 0) && decide (i < ((blk bl b.toNat).code.length : Int))))
def aheadO (bl : List XB) (out : List (List Int)) (b i : Int) : List Int := if there bl b i then thrL (blk bl b.toNat).code i.toNat (out.getD b.toNat []) else []
def behindO (bl : List XB) (out : List (List Int)) (b i : Int) : List Int := if there bl b i then thrL (blk bl b.toNat).code (i.toNat + 1) (out.getD b.toNat []) else []
end U
theorem there_of {bl : List XB} {b i : Int} (h : U.there bl b i = true) : 0 ≤ b ∧ b < bl.length ∧ 0 ≤ i ∧ i < (U.blk bl b.toNat).code.length := by
  unfold U.there at h
  simp only [Bool.and_eq_true, decide_eq_true_eq] at h
  exact h
theorem there_nat {bl : List XB} {b i : Nat} (hb : b < bl.length) (hi : i < (U.blk bl b).code.length) : U.there bl b i = true := by
  unfold U.there
  rw [Int.toNat_natCast]
  simp only [Bool.and_eq_true, decide_eq_true_eq]
  omega
section
variable (ks bs : List (List AV)) (p q : Int) (bl : List XB)
theorem wv45 (b i : Int) : Wf Tryd.prog H 45 [.agg [.sl ks, .sl bs, goI p, goI q, .sl (bl.map encB)], goI b, goI i] [] = some (goB (U.there bl b i), [], []) := by
  refine runK (v45 ks bs p q bl b i _) ?_
  unfold U.there
  rw [List.length_map]
  cases h1 : decide (b ≥ 0) with
  | false => exact rfl
  | true =>
    cases h2 : decide (b < (bl.length : Int)) with
    | false => exact rfl
    | true =>
      cases h3 : decide (i ≥ 0) with
      | false => exact rfl
      | true =>
        rw [decide_eq_true_eq] at h1 h2 h3
        have hb : b.toNat < bl.length := by omega
        rw [rowB hb, getB hb]
        simp only [encB, rdL, slOf, List.getD_cons_zero, List.length_map]
        exact ⟨⟨by omega, by trivial⟩, rfl⟩
variable (hc : CodeOk bl) (hx : ∀ b ∈ bl, ∀ x ∈ b.code, InsIn x) {out inn : List (List Int)} (h47 : Wf Tryd.prog H 47 [.agg [.sl ks, .sl bs, goI p, goI q, .sl (bl.map encB)]] [] = some (.os 0 0 out.length, [.arr 1 (out.map encL)], [])) (hI : LInv bl inn out []) (hO : LenA out)
include hc hx h47 hI hO
theorem wv15 (b i : Int) : Wf Tryd.prog H 15 [.agg [.sl ks, .sl bs, goI p, goI q, .sl (bl.map encB)], goI b, goI i] [] = some (.sl ((U.aheadO bl out b i).map encU), [], []) := by
  refine runK (v15 ks bs p q bl b i (U.there bl b i) out (U.aheadO bl out b i) _) ⟨wv45 ks bs p q bl b i, ?_⟩
  unfold U.aheadO
  cases ht : U.there bl b i with
  | false => exact rfl
  | true =>
    obtain ⟨t1, t2, t3, t4⟩ := there_of ht
    obtain ⟨n, rfl⟩ := Int.eq_ofNat_of_zero_le t1
    obtain ⟨j, rfl⟩ := Int.eq_ofNat_of_zero_le t3
    rw [Int.toNat_natCast] at t4 ⊢
    rw [Int.toNat_natCast]
    have hl2 := hI.len2
    have h46 := wv46 ks bs p q bl hc hx n j (out.getD n []) (by omega) (by omega) (hI.wdo.at _) (hO.at _)
    have e : List.take out.length (List.drop 0 (out.map encL)) = out.map encL := take_map encL out
    obtain ⟨r1, r2⟩ := rowL (l := out) (i := n) (by omega)
    rw [e, r1, r2]
    exact ⟨h47, ⟨by omega, rfl⟩, h46, rfl⟩
theorem wv11 (b i : Int) : Wf Tryd.prog H 11 [.agg [.sl ks, .sl bs, goI p, goI q, .sl (bl.map encB)], goI b, goI i] [] = some (.sl ((U.behindO bl out b i).map encU), [], []) := by
  refine runK (v11 ks bs p q bl b i (U.there bl b i) out (U.behindO bl out b i) _) ⟨wv45 ks bs p q bl b i, ?_⟩
  unfold U.behindO
  cases ht : U.there bl b i with
  | false => exact rfl
  | true =>
    obtain ⟨t1, t2, t3, t4⟩ := there_of ht
    obtain ⟨n, rfl⟩ := Int.eq_ofNat_of_zero_le t1
    obtain ⟨j, rfl⟩ := Int.eq_ofNat_of_zero_le t3
    rw [Int.toNat_natCast] at t4 ⊢
    rw [Int.toNat_natCast]
    have hl2 := hI.len2
    have hcl := hc _ (blk_mem (l := bl) (i := n) (by omega))
    have h46 := wv46 ks bs p q bl hc hx n (j + 1) (out.getD n []) (by omega) (by omega) (hI.wdo.at _) (hO.at _)
    have e : List.take out.length (List.drop 0 (out.map encL)) = out.map encL := take_map encL out
    obtain ⟨r1, r2⟩ := rowL (l := out) (i := n) (by omega)
    rw [e, r1, r2, wrapS (show j < (U.blk bl n).code.length by omega) (by omega)]
    exact ⟨h47, ⟨by omega, rfl⟩, h46, rfl⟩
end
/-! Programs that are asked about. -/
theorem wf9 : Wf Tryd.prog H 9 [] [] = some (goB true, [], []) := Wf_at 60 (by kernel_rfl)
theorem rem_in {u n : Int} (hu : 0 ≤ u ∧ u ≤ 255) (hn : 0 < n) : IntKind.i64.wrap u = u ∧ 0 ≤ Int.tmod u n ∧ Int.tmod u n < n := by
  refine ⟨by rw [wrap64] <;> omega, Int.tmod_nonneg _ hu.1, Int.tmod_lt_of_pos _ hn⟩
theorem codeOk_of {f : XF} (h : SmallF f) : CodeOk f.blocks := fun b hb => (h.2.2.2 b hb).1
theorem vars_of {P : List XF} (h : U.okProg P = true) {i : Nat} (hi : i < P.length) {b : XB} (hb : b ∈ (U.fun_ P i).blocks) {x : XI} (hx : x ∈ b.code) : (∀ v ∈ U.vars x, 0 ≤ v ∧ v < (U.fun_ P i).kinds.length) ∧ (∀ t ∈ U.next x, 1 ≤ t ∧ t < (U.fun_ P i).blocks.length) ∧ U.bare x = true := by
  have hx := okIns_at h hi hb hx
  unfold U.okIns at hx
  simp only [Bool.and_eq_true] at hx
  refine ⟨fun v hv => ?_, fun t ht => ?_, hx.1.1.1.2⟩
  · have := (inFrom_iff _ _ _).1 hx.1.1.2 v hv; omega
  · have := (inFrom_iff _ _ _).1 hx.1.2 t ht; omega
theorem insIn_of {P : List XF} (h : U.okProg P = true) {i : Nat} (hi : i < P.length) (hs : SmallF (U.fun_ P i)) : ∀ b ∈ (U.fun_ P i).blocks, ∀ x ∈ b.code, InsIn x := fun b hb x hx => by
  obtain ⟨h1, h2, h3⟩ := vars_of h hi hb hx
  have hf := funcOk_of (okFunc_at h (fun_mem hi))
  have hk := hf.kinds
  refine ⟨(hs.2.2.2 b hb).2 x hx, ?_⟩
  cases hd : U.has x.op 68 with
  | true =>
    have := h1 x.d (by unfold U.vars; rw [if_pos hd]; simp)
    omega
  | false =>
    unfold U.bare at h3
    simp only [Bool.and_eq_true, Bool.or_eq_true, beq_iff_eq, hd, Bool.false_eq_true, or_false] at h3
    have := h3.1.1.1.1.1
    omega
theorem usesOk_of {P : List XF} (h : U.okProg P = true) {i : Nat} (hi : i < P.length) : UsesOk (U.fun_ P i).blocks := by
  have hf := funcOk_of (okFunc_at h (fun_mem hi))
  have hk := hf.kinds
  refine ⟨fun b hb => (hf.code _ (blk_mem hb)).1, fun b hb x hx v hv => ?_, fun x h0 h1 y hy => ?_⟩
  · have := (vars_of h hi (blk_mem hb) hx).1 v (by unfold U.vars; exact List.mem_append_left _ hv)
    omega
  · obtain ⟨b, rfl⟩ := Int.eq_ofNat_of_zero_le h0
    have hb : b < (U.fun_ P i).blocks.length := by omega
    obtain ⟨c1, c2⟩ := hf.code _ (blk_mem hb)
    unfold U.nextAt at hy
    rw [if_neg (by omega), Int.toNat_natCast, if_neg (by omega)] at hy
    have := (vars_of h hi (blk_mem hb) (ins_mem (i := (U.blk (U.fun_ P i).blocks b).code.length - 1) (by omega))).2.1 y hy
    omega
namespace U
def mx2 (a b : Int) : Int := if a < b then b else a
def mx (a : List XF) : Nat → Nat → Int → Int
  | 0, i, n => n
  | d + 1, i, n => mx a d (i + 1) (mx2 (mx2 n ((fun_ a i).blocks.length : Int)) (IntKind.i64.wrap (Int.tdiv ((fun_ a i).kinds.length : Int) 2)))
def out11 (p : XP) : Bool := decide (mx p.funcs (min p.funcs.length 9) 0 0 > 16) || (great p || !okProg p.funcs)
end U
theorem mx2_ge (a b : Int) : a ≤ U.mx2 a b ∧ b ≤ U.mx2 a b := by unfold U.mx2; split <;> omega
theorem mx_ge (a : List XF) : ∀ (d i : Nat) (n : Int), n ≤ U.mx a d i n
  | 0, i, n => Int.le_refl _
  | d + 1, i, n => by
    have := mx_ge a d (i + 1) (U.mx2 (U.mx2 n ((U.fun_ a i).blocks.length : Int)) (IntKind.i64.wrap (Int.tdiv ((U.fun_ a i).kinds.length : Int) 2)))
    have h1 := mx2_ge n ((U.fun_ a i).blocks.length : Int)
    have h2 := mx2_ge (U.mx2 n ((U.fun_ a i).blocks.length : Int)) (IntKind.i64.wrap (Int.tdiv ((U.fun_ a i).kinds.length : Int) 2))
    unfold U.mx
    omega
theorem mx_at (a : List XF) : ∀ (d i : Nat) (n : Int) (j : Nat), i ≤ j → j < i + d → ((U.fun_ a j).blocks.length : Int) ≤ U.mx a d i n
  | 0, i, n, j, h1, h2 => by omega
  | d + 1, i, n, j, h1, h2 => by
    unfold U.mx
    by_cases e : j = i
    · subst e
      have := mx_ge a d (j + 1) (U.mx2 (U.mx2 n ((U.fun_ a j).blocks.length : Int)) (IntKind.i64.wrap (Int.tdiv ((U.fun_ a j).kinds.length : Int) 2)))
      have h1 := mx2_ge n ((U.fun_ a j).blocks.length : Int)
      have h2 := mx2_ge (U.mx2 n ((U.fun_ a j).blocks.length : Int)) (IntKind.i64.wrap (Int.tdiv ((U.fun_ a j).kinds.length : Int) 2))
      omega
    · exact mx_at a d (i + 1) _ j (by omega) (by omega)
theorem loop10_3 (a : List XF) (ha : Long a.length) : ∀ (d i : Nat) (n : Int), i + d = min a.length 9 →
    LoopTo Tryd.prog H (H 10) 0 (loopOf Tryd.prog 10 3) (mkS 44 [(1, .pt 0 0 0), (3, goI n), (4, goI i)] [.box [.sl (a.map encF)]]) (.exit 0, mkS 44 [(1, .pt 0 0 0), (3, goI (U.mx a d i n))] [.box [.sl (a.map encF)]])
  | 0, i, n, hd => by
    refine turnK (t10_3 a n i _) ?_
    rw [List.length_map]
    by_cases h : (i : Int) < a.length
    · rw [decide_eq_true h, decide_eq_false (show ¬ (i : Int) < 9 by omega)]; exact rfl
    · rw [decide_eq_false h]; exact rfl
  | d + 1, i, n, hd => by
    have hi : i < a.length := by omega
    have ih := loop10_3 a ha d (i + 1) (U.mx2 (U.mx2 n ((U.fun_ a i).blocks.length : Int)) (IntKind.i64.wrap (Int.tdiv ((U.fun_ a i).kinds.length : Int) 2))) (by omega)
    refine turnK (t10_3 a n i _) ?_
    rw [List.length_map, decide_eq_true (show (i : Int) < a.length by omega), decide_eq_true (show (i : Int) < 9 by omega), wrapS (show i < 9 by omega) (by omega), rowF hi, getF hi]
    simp only [encF, rdI, rdL, slOf, List.getD_cons_zero, List.getD_cons_succ, int_goI, List.length_map, if_true]
    exact ⟨⟨by omega, by trivial⟩, ⟨by omega, by trivial⟩, by decide, ih⟩
theorem wf10 (p : XP) (hp : HandP p) : Wf Tryd.prog H 10 [.agg (encP p)] [] = some (goB (U.out11 p), [], []) := by
  refine runK (t10 p.funcs (U.mx p.funcs (min p.funcs.length 9) 0 0) (U.great p) (if U.okProg p.funcs then 0 else 5) _) ⟨loop10_3 p.funcs hp.1 (min p.funcs.length 9) 0 0 (by omega), ?_⟩
  unfold U.out11
  cases decide (U.mx p.funcs (min p.funcs.length 9) 0 0 > 16) with
  | true => exact rfl
  | false =>
    refine ⟨wf43 p hp, ?_⟩
    cases hg : U.great p with
    | true => exact rfl
    | false =>
      obtain ⟨h1, h2⟩ := small_of hg
      refine ⟨wf44 p.funcs h1 h2, ?_⟩
      cases U.okProg p.funcs with
      | true => exact rfl
      | false => exact rfl
/-- What is known of a program that is asked about. -/
structure Asked (a : List XF) : Prop where
  len : a.length ≤ 3000
  small : ∀ f ∈ a, SmallF f
  ok : U.okProg a = true
  few : ∀ f ∈ a, f.blocks.length ≤ 16
theorem asked_of {p : XP} (h : U.out11 p = false) : Asked p.funcs := by
  unfold U.out11 at h
  rw [Bool.or_eq_false_iff, Bool.or_eq_false_iff] at h
  obtain ⟨h1, h2, h3⟩ := h
  obtain ⟨g1, g2⟩ := small_of h2
  have hok : U.okProg p.funcs = true := by simpa using h3
  refine ⟨g1, g2, hok, fun f hf => ?_⟩
  obtain ⟨j, hj, e⟩ := mem_getD hf
  have h9 : p.funcs.length ≤ 8 := by
    have := hok
    unfold U.okProg at this
    rw [Bool.and_eq_true] at this
    have h8 := this.1
    simp only [Bool.and_eq_true, within_iff] at h8
    omega
  have := mx_at p.funcs (min p.funcs.length 9) 0 0 j (Nat.zero_le _) (by omega)
  have e' : U.fun_ p.funcs j = f := e
  rw [e'] at this
  have := of_decide_eq_false h1
  omega
theorem thr_step {c : List XI} {k : Nat} (h : k < c.length) (o : List Int) : U.thrL c k o = U.backL (U.ins c k) (U.thrL c (k + 1) o) := by
  unfold U.thrL
  rw [drop_ins h, List.foldr_cons]
theorem loop3_6 (a : List XF) (u v : Int) (hu : 0 ≤ u ∧ u ≤ 255) (hv : 0 ≤ v ∧ v ≤ 255) (hK : Asked a) : ∀ (d i : Nat), i + d = a.length →
    LoopTo Tryd.prog H (H 3) 0 (loopOf Tryd.prog 3 6) (mkS 80 [(1, .v (.int .u8 u)), (2, .v (.int .u8 v)), (3, .pt 0 0 0), (7, goI i)] [.box [.sl (a.map encF)], .dead, .dead]) (.exit 0, mkS 80 [] [.dead, .dead, .dead])
  | 0, i, hd => by
    refine turnK (t3_6 a u v i [] [] false 0 [] false [] [] 0 0 _) ?_
    rw [List.length_map, decide_eq_false (by omega)]
    exact rfl
  | d + 1, i, hd => by
    have hi : i < a.length := by omega
    have ih := loop3_6 a u v hu hv hK d (i + 1) (by omega)
    have hlen := hK.len
    have hf := hK.small _ (fun_mem hi)
    have hF := funcOk_of (okFunc_at hK.ok (fun_mem hi))
    have hc := codeOk_of hf
    have hx := insIn_of hK.ok hi hf
    have hn1 := hF.blocks.1
    obtain ⟨out, inn, h47, hI, hA, hO⟩ := wv47 ((U.fun_ a i).kinds.map encI) ((U.fun_ a i).base.map encI) (U.fun_ a i).params (U.fun_ a i).result (U.fun_ a i).blocks hc (hK.few _ (fun_mem hi)) hx (usesOk_of hK.ok hi)
    obtain ⟨e1, a1, a2⟩ := rem_in (n := (U.fun_ a i).blocks.length) hu (by omega)
    obtain ⟨A, hA'⟩ := Int.eq_ofNat_of_zero_le a1
    have hAl : A < (U.fun_ a i).blocks.length := by omega
    obtain ⟨c1, c2⟩ := hF.code _ (blk_mem hAl)
    obtain ⟨e2, b1, b2⟩ := rem_in (n := (U.blk (U.fun_ a i).blocks A).code.length) hv (by omega)
    obtain ⟨K, hK'⟩ := Int.eq_ofNat_of_zero_le b1
    have hKl : K < (U.blk (U.fun_ a i).blocks A).code.length := by omega
    have h11 := wv11 ((U.fun_ a i).kinds.map encI) ((U.fun_ a i).base.map encI) (U.fun_ a i).params (U.fun_ a i).result (U.fun_ a i).blocks hc hx h47 hI hO A K
    have h15 := wv15 ((U.fun_ a i).kinds.map encI) ((U.fun_ a i).base.map encI) (U.fun_ a i).params (U.fun_ a i).result (U.fun_ a i).blocks hc hx h47 hI hO A K
    have ht : U.there (U.fun_ a i).blocks A K = true := there_nat hAl hKl
    have ew : U.behindO (U.fun_ a i).blocks out A K = U.thrL (U.blk (U.fun_ a i).blocks A).code (K + 1) (out.getD A []) := by unfold U.behindO; rw [if_pos ht]; rfl
    have em : U.aheadO (U.fun_ a i).blocks out A K = U.backL (U.ins (U.blk (U.fun_ a i).blocks A).code K) (U.thrL (U.blk (U.fun_ a i).blocks A).code (K + 1) (out.getD A [])) := by
      unfold U.aheadO; rw [if_pos ht, Int.toNat_natCast, Int.toNat_natCast, thr_step hKl]
    rw [ew] at h11
    rw [em] at h15
    have hsw := thr_Wd (hI.wdo.at A) ((U.blk (U.fun_ a i).blocks A).code.drop (K + 1))
    have hsl := thr_len _ (hO.at A) ((U.blk (U.fun_ a i).blocks A).code.drop (K + 1))
    have exs : U.thrL (U.blk (U.fun_ a i).blocks A).code (K + 1) (out.getD A []) = ((U.blk (U.fun_ a i).blocks A).code.drop (K + 1)).foldr U.backL (out.getD A []) := rfl
    rw [← exs] at hsw hsl
    have hins := hx _ (blk_mem hAl) _ (ins_mem hKl)
    generalize U.thrL (U.blk (U.fun_ a i).blocks A).code (K + 1) (out.getD A []) = w at h11 h15 hsw hsl
    have h12 := wf82 (U.ins (U.blk (U.fun_ a i).blocks A).code K).op (U.ins (U.blk (U.fun_ a i).blocks A).code K).d (U.ins (U.blk (U.fun_ a i).blocks A).code K).a (U.ins (U.blk (U.fun_ a i).blocks A).code K).b (U.ins (U.blk (U.fun_ a i).blocks A).code K).n (U.ins (U.blk (U.fun_ a i).blocks A).code K).m (U.ins (U.blk (U.fun_ a i).blocks A).code K).args
    have h17 := wf57 (U.ins (U.blk (U.fun_ a i).blocks A).code K) hins.1
    have hul := usesL_len (U.ins (U.blk (U.fun_ a i).blocks A).code K)
    have hal := hins.1
    have h13 := wb13b w [(U.ins (U.blk (U.fun_ a i).blocks A).code K).d] hsw hsl (by simp) (fun n hn => by rw [List.mem_singleton.1 hn]; exact hins.2)
    have main : ∀ (t : List Int), Bit.Wd t → t.length ≤ 1000 → Wf Tryd.prog H 16 [.sl (t.map encU), .sl ((U.uses (U.ins (U.blk (U.fun_ a i).blocks A).code K)).map encI)] [] = some (.os 0 0 (U.withL t (U.uses (U.ins (U.blk (U.fun_ a i).blocks A).code K))).length, [.arr 1 (((U.uses (U.ins (U.blk (U.fun_ a i).blocks A).code K)).foldl Bit.putL t).map encU)], []) := fun t h1 h2 => wb16 t _ h1 h2 (by omega)
    have hfin : ∀ t : List Int, List.take (U.withL t (U.uses (U.ins (U.blk (U.fun_ a i).blocks A).code K))).length (List.drop 0 (((U.uses (U.ins (U.blk (U.fun_ a i).blocks A).code K)).foldl Bit.putL t).map encU)) = (U.withL t (U.uses (U.ins (U.blk (U.fun_ a i).blocks A).code K))).map encU := fun t => by rw [take_mapU]; unfold U.withL; rw [neat_take]
    have hwo : List.take (U.withoutL w [(U.ins (U.blk (U.fun_ a i).blocks A).code K).d]).length (List.drop 0 (([(U.ins (U.blk (U.fun_ a i).blocks A).code K).d].foldl Bit.dropL w).map encU)) = (U.withoutL w [(U.ins (U.blk (U.fun_ a i).blocks A).code K).d]).map encU := by rw [take_mapU]; unfold U.withoutL; rw [neat_take]
    have hbl := backL_len (U.ins (U.blk (U.fun_ a i).blocks A).code K) w hsl
    have h14 := wb14 (U.backL (U.ins (U.blk (U.fun_ a i).blocks A).code K) w) (U.backL (U.ins (U.blk (U.fun_ a i).blocks A).code K) w) (by omega) (by omega)
    rw [decide_eq_true rfl] at h14
    cases hd : U.has (U.ins (U.blk (U.fun_ a i).blocks A).code K).op 68 with
    | true =>
      rw [hd] at h12
      have eb : U.backL (U.ins (U.blk (U.fun_ a i).blocks A).code K) w = U.withL (U.withoutL w [(U.ins (U.blk (U.fun_ a i).blocks A).code K).d]) (U.uses (U.ins (U.blk (U.fun_ a i).blocks A).code K)) := by unfold U.backL; rw [if_pos hd]
      have h16 := main _ (withoutL_Wd (l := [(U.ins (U.blk (U.fun_ a i).blocks A).code K).d]) hsw) (withoutL_len w _ hsl)
      rw [eb] at h14 h15
      refine turnK (t3_6 a u v i w (U.backL (U.ins (U.blk (U.fun_ a i).blocks A).code K) w) true (U.ins (U.blk (U.fun_ a i).blocks A).code K).d (U.uses (U.ins (U.blk (U.fun_ a i).blocks A).code K)) (U.some (U.ins (U.blk (U.fun_ a i).blocks A).code K)) ([(U.ins (U.blk (U.fun_ a i).blocks A).code K).d].foldl Bit.dropL w) ((U.uses (U.ins (U.blk (U.fun_ a i).blocks A).code K)).foldl Bit.putL (U.withoutL w [(U.ins (U.blk (U.fun_ a i).blocks A).code K).d])) (U.withoutL w [(U.ins (U.blk (U.fun_ a i).blocks A).code K).d]).length (U.withL (U.withoutL w [(U.ins (U.blk (U.fun_ a i).blocks A).code K).d]) (U.uses (U.ins (U.blk (U.fun_ a i).blocks A).code K))).length _) ?_
      rw [eb, hwo, hfin, take_usesI, List.length_map, decide_eq_true (show (i : Int) < a.length by omega), wrapS hi (by omega), rowF hi, getF hi, e1, e2]
      simp only [encF, rdI, rdL, slOf, List.getD_cons_zero, List.getD_cons_succ, int_goI]
      rw [List.length_map, hA', Int.toNat_natCast, rowB hAl, getB hAl]
      simp only [encB, List.getD_cons_zero]
      rw [List.length_map, hK', Int.toNat_natCast, rowIn hKl, getIn hKl]
      simp only [encIn, List.getD_cons_zero, List.getD_cons_succ, int_goI]
      refine ⟨⟨by omega, by trivial⟩, by omega, ⟨by omega, by trivial⟩, by omega, ⟨by omega, by trivial⟩, ⟨by omega, by trivial⟩, h11, h12, h13, h15, ?_⟩
      cases hsm : U.some (U.ins (U.blk (U.fun_ a i).blocks A).code K) with
      | true => rw [hsm] at h17; exact ⟨h17, h16, h14, ih⟩
      | false =>
        rw [hsm] at h17
        rw [some_no hsm] at h16 h14 ⊢
        exact ⟨h17, h16, h14, ih⟩
    | false =>
      rw [hd] at h12
      have eb : U.backL (U.ins (U.blk (U.fun_ a i).blocks A).code K) w = U.withL w (U.uses (U.ins (U.blk (U.fun_ a i).blocks A).code K)) := by unfold U.backL; rw [if_neg (by rw [hd]; simp)]
      have h16 := main w hsw hsl
      rw [eb] at h14 h15
      refine turnK (t3_6 a u v i w (U.backL (U.ins (U.blk (U.fun_ a i).blocks A).code K) w) false (U.ins (U.blk (U.fun_ a i).blocks A).code K).d (U.uses (U.ins (U.blk (U.fun_ a i).blocks A).code K)) (U.some (U.ins (U.blk (U.fun_ a i).blocks A).code K)) [] ((U.uses (U.ins (U.blk (U.fun_ a i).blocks A).code K)).foldl Bit.putL w) 0 (U.withL w (U.uses (U.ins (U.blk (U.fun_ a i).blocks A).code K))).length _) ?_
      rw [eb, hfin, take_usesI, List.length_map, decide_eq_true (show (i : Int) < a.length by omega), wrapS hi (by omega), rowF hi, getF hi, e1, e2]
      simp only [encF, rdI, rdL, slOf, List.getD_cons_zero, List.getD_cons_succ, int_goI]
      rw [List.length_map, hA', Int.toNat_natCast, rowB hAl, getB hAl]
      simp only [encB, List.getD_cons_zero]
      rw [List.length_map, hK', Int.toNat_natCast, rowIn hKl, getIn hKl]
      simp only [encIn, List.getD_cons_zero, List.getD_cons_succ, int_goI]
      refine ⟨⟨by omega, by trivial⟩, by omega, ⟨by omega, by trivial⟩, by omega, ⟨by omega, by trivial⟩, ⟨by omega, by trivial⟩, h11, h12, h15, ?_⟩
      cases hsm : U.some (U.ins (U.blk (U.fun_ a i).blocks A).code K) with
      | true => rw [hsm] at h17; exact ⟨h17, h16, h14, ih⟩
      | false =>
        rw [hsm] at h17
        rw [some_no hsm] at h16 h14 ⊢
        exact ⟨h17, h16, h14, ih⟩
theorem wf3 (p : XP) (u v : Int) (hu : 0 ≤ u ∧ u ≤ 255) (hv : 0 ≤ v ∧ v ≤ 255) (hp : HandP p) : Wf Tryd.prog H 3 [.agg (encP p), .v (.int .u8 u), .v (.int .u8 v)] [] = some (goB true, [], []) := by
  refine runK (t3 p.funcs u v (U.out11 p) _) ⟨wf9, wf10 p hp, ?_⟩
  cases ho : U.out11 p with
  | true => exact rfl
  | false => exact ⟨loop3_6 p.funcs u v hu hv (asked_of ho) p.funcs.length 0 (by omega), rfl⟩
end Go.Proofs.YtdnekkkpngnmkaaDoor.E
