/- Functions, by what the evaluator asks; the theorems t.. were printed by show.txt, a program of this session. -/
import Derived.Test.YtabdcfcnngnnoaaDoor05c
set_option linter.unusedVariables false
set_option linter.unusedSectionVars false
set_option linter.unusedSimpArgs false
set_option maxRecDepth 100000
namespace Go.Proofs.YtabdcfcnngnnoaaDoor.E
open Go
namespace U
/-- The variables that are asked for, and set. -/
def vars (x : XI) : List Int := uses x ++ (if has x.op 68 then [x.d] else [])
def inFrom (us : List Int) (a b : Int) (i : Nat) : Bool := allFrom (fun j => within (nt us j) a b) i us.length
def okNums (P : List XF) (x : XI) : Bool :=
  if x.op = 19 then within x.n 0 ((P.length : Int) - 1) && ((x.args.length : Int) == (fun_ P x.n.toNat).params)
  else if x.op = 1 then within x.n (-2147483648) 2147483648 else if x.op = 16 then within x.n (-8) 8 else if x.op = 10 then within x.n 0 8 && within x.m 0 8
  else if x.op = 11 then within x.n 0 7 else if x.op = 12 then within x.n 0 7 else if x.op = 13 then within x.n 0 7 else if x.op = 14 then within x.n 0 7 else if x.op = 15 then within x.n 0 7 else true
/-- May an instruction be? -/
def okIns (P : List XF) (i : Nat) (x : XI) : Bool :=
  within i 0 ((P.length : Int) - 1) && !((parts x.op).toList == []) && bare x && inFrom (vars x) 0 (((fun_ P i).kinds.length : Int) - 1) 0 && inFrom (next x) 1 (((fun_ P i).blocks.length : Int) - 1) 0 && okNums P x
end U
def F69 (ba : Bool) (us : List Int) (s sd : Bool) (d : Int) (nx : List Int) : CallT := fun f args sto => match f, args with
 | 59, [.v (.int _ n), .v (.int _ a), .v (.int _ b)] => .is (goB (U.within n a b), [], [])
 | 79, [.v (.int _ n)] => .is (.v (.string (U.parts n)), [], [])
 | 80, _ => .is (goB ba, [], [])
 | 81, _ => .by s (.is (.os 0 0 us.length, [.arr 1 (us.map encI)], [])) (.is (.nil, [], []))
 | 82, _ => .by sd (.is (.tup [goI d, goB true], [], [])) (.is (.tup [goI 0, goB false], [], []))
 | 77, _ => .is (.sl (nx.map encI), [], [])
 | _, _ => .no
def L69 (b1 b2 : Bool) : Nat → St → LT := fun id st => match id with
 | 9 => .by b1 (.is (.exit 0) (mkS 136 [(3, .pt 0 0 0), (5, .pt 1 0 0), (7, .pt 2 0 0)] (st.sto.set 3 .dead))) (.is .ret (mkS 136 [(6, goB false)] [.dead, .dead, .dead, .dead]))
 | 15 => .by b2 (.is (.exit 2) (mkS 136 [(3, .pt 0 0 0), (5, .pt 1 0 0)] st.sto)) (.is .ret (mkS 136 [(6, goB false)] [.dead, .dead, .dead, .dead]))
 | _ => .no
set_option maxHeartbeats 4000000

theorem t69 (P : List XF) (i : Nat) (op : Int) (d : Int) (a : Int) (b : Int) (n : Int) (m : Int) (l : List Int) (ba : Bool) (us : List Int) (s : Bool) (sd : Bool) (nx : List Int) (b1 : Bool) (b2 : Bool) (r : AV × List Row × List Nat) : (runT Tryd.prog H (F69 ba us s sd d nx) (L69 b1 b2) false 61
 [AV.agg [AV.sl (List.map encF P)], goI (↑i : Int),
 AV.agg [goI op, goI d, goI a, goI b, goI n, goI m, AV.sl (List.map encI l)]]
 [] fun q => q = r) = (Wf Tryd.prog H 59 [goI (↑i : Int), goI 0, goI (IntKind.wrap IntKind.i64 ((↑(List.length (List.map encF P)) : Int) - 1))]
 [] =
 some
 (goB (U.within (↑i : Int) 0 (IntKind.wrap IntKind.i64 ((↑(List.length (List.map encF P)) : Int) - 1))), [], []) ∧
 TB (!U.within (↑i : Int) 0 (IntKind.wrap IntKind.i64 ((↑(List.length (List.map encF P)) : Int) - 1)))
 ((goB false, [], []) = r)
 (Wf Tryd.prog H 79 [goI op] [] = some (AV.v (Value.string (U.parts op)), [], []) ∧
 TB (ByteArray.toList (U.parts op) == []) ((goB false, [], []) = r)
 (Wf Tryd.prog H 80 [AV.agg [goI op, goI d, goI a, goI b, goI n, goI m, AV.sl (List.map encI l)]] [] =
 some (goB ba, [], []) ∧
 TB (!ba) ((goB false, [], []) = r)
 ((0 ≤ (↑i : Int) ∧
 (List.map encF P)[i]? =
 some
 [AV.sl (rdL (rowAt (List.map encF P) i) 0), AV.sl (rdL (rowAt (List.map encF P) i) 1),
 goI (rdI (rowAt (List.map encF P) i) 2), goI (rdI (rowAt (List.map encF P) i) 3),
 AV.sl (rdL (rowAt (List.map encF P) i) 4)]) ∧
 TB s
 (Wf Tryd.prog H 81 [AV.agg [goI op, goI d, goI a, goI b, goI n, goI m, AV.sl (List.map encI l)]] [] =
 some (AV.os 0 0 (List.length us), [Row.arr 1 (List.map encI us)], []) ∧
 (List.all (List.map encI us) fun r => List.all r scalarA) = true ∧
 TB sd
 (Wf Tryd.prog H 82 [AV.agg [goI op, goI d, goI a, goI b, goI n, goI m, AV.sl (List.map encI l)]]
 [] =
 some (AV.tup [goI d, goB true], [], []) ∧
 true = true ∧
 (List.length us = List.length (List.map encI us) ∧ List.length us + 1 ≤ 1000000) ∧
 TB b1
 (LoopTo Tryd.prog H (H 61) 0 (loopOf Tryd.prog 61 9)
 (mkS 136
 [(3, AV.pt 0 0 0), (5, AV.pt 1 0 0), (7, AV.pt 2 0 0),
 (8, AV.os 3 0 (List.length us + 1)), (11, goI 0)]
 [Row.box [AV.sl (List.map encF P)],
 Row.box [goI op, goI d, goI a, goI b, goI n, goI m, AV.sl (List.map encI l)],
 Row.box
 [AV.sl (rdL (rowAt (List.map encF P) i) 0),
 AV.sl (rdL (rowAt (List.map encF P) i) 1),
 goI (rdI (rowAt (List.map encF P) i) 2),
 goI (rdI (rowAt (List.map encF P) i) 3),
 AV.sl (rdL (rowAt (List.map encF P) i) 4)],
 Row.arr 1 (List.map encI us ++ [[goI d]])])
 (Ex.exit 0,
 mkS 136 [(3, AV.pt 0 0 0), (5, AV.pt 1 0 0), (7, AV.pt 2 0 0)]
 [Row.box [AV.sl (List.map encF P)],
 Row.box [goI op, goI d, goI a, goI b, goI n, goI m, AV.sl (List.map encI l)],
 Row.box
 [AV.sl (rdL (rowAt (List.map encF P) i) 0),
 AV.sl (rdL (rowAt (List.map encF P) i) 1),
 goI (rdI (rowAt (List.map encF P) i) 2),
 goI (rdI (rowAt (List.map encF P) i) 3),
 AV.sl (rdL (rowAt (List.map encF P) i) 4)],
 Row.dead]) ∧
 Wf Tryd.prog H 77
 [AV.agg [goI op, goI d, goI a, goI b, goI n, goI m, AV.sl (List.map encI l)]] [] =
 some (AV.sl (List.map encI nx), [], []) ∧
 TB b2
 (LoopTo Tryd.prog H (H 61) 0 (loopOf Tryd.prog 61 15)
 (mkS 136
 [(3, AV.pt 0 0 0), (5, AV.pt 1 0 0), (7, AV.pt 2 0 0),
 (12, AV.sl (List.map encI nx)), (13, goI 0)]
 [Row.box [AV.sl (List.map encF P)],
 Row.box
 [goI op, goI d, goI a, goI b, goI n, goI m, AV.sl (List.map encI l)],
 Row.box
 [AV.sl (rdL (rowAt (List.map encF P) i) 0),
 AV.sl (rdL (rowAt (List.map encF P) i) 1),
 goI (rdI (rowAt (List.map encF P) i) 2),
 goI (rdI (rowAt (List.map encF P) i) 3),
 AV.sl (rdL (rowAt (List.map encF P) i) 4)],
 Row.dead])
 (Ex.exit 2,
 mkS 136 [(3, AV.pt 0 0 0), (5, AV.pt 1 0 0)]
 [Row.box [AV.sl (List.map encF P)],
 Row.box
 [goI op, goI d, goI a, goI b, goI n, goI m, AV.sl (List.map encI l)],
 Row.box
 [AV.sl (rdL (rowAt (List.map encF P) i) 0),
 AV.sl (rdL (rowAt (List.map encF P) i) 1),
 goI (rdI (rowAt (List.map encF P) i) 2),
 goI (rdI (rowAt (List.map encF P) i) 3),
 AV.sl (rdL (rowAt (List.map encF P) i) 4)],
 Row.dead]) ∧
 TB (op == 19)
 (Wf Tryd.prog H 59
 [goI n, goI 0,
 goI
 (IntKind.wrap IntKind.i64
 ((↑(List.length (List.map encF P)) : Int) - 1))]
 [] =
 some
 (goB
 (U.within n 0
 (IntKind.wrap IntKind.i64
 ((↑(List.length (List.map encF P)) : Int) - 1))),
 [], []) ∧
 TB
 (U.within n 0
 (IntKind.wrap IntKind.i64 ((↑(List.length (List.map encF P)) : Int) - 1)))
 ((0 ≤ n ∧
 (List.map encF P)[Int.toNat n]? =
 some
 [AV.sl (rdL (rowAt (List.map encF P) (Int.toNat n)) 0),
 AV.sl (rdL (rowAt (List.map encF P) (Int.toNat n)) 1),
 goI (rdI (rowAt (List.map encF P) (Int.toNat n)) 2),
 goI (rdI (rowAt (List.map encF P) (Int.toNat n)) 3),
 AV.sl (rdL (rowAt (List.map encF P) (Int.toNat n)) 4)]) ∧
 (goB
 ((↑(List.length (List.map encI l)) : Int) ==
 rdI (rowAt (List.map encF P) (Int.toNat n)) 2),
 [], []) =
 r)
 ((goB false, [], []) = r))
 (TB (op == 1)
 (Wf Tryd.prog H 59 [goI n, goI (-2147483648), goI 2147483648] [] =
 some (goB (U.within n (-2147483648) 2147483648), [], []) ∧
 (goB (U.within n (-2147483648) 2147483648), [], []) = r)
 (TB (op == 16)
 (Wf Tryd.prog H 59 [goI n, goI (-8), goI 8] [] =
 some (goB (U.within n (-8) 8), [], []) ∧
 (goB (U.within n (-8) 8), [], []) = r)
 (TB (op == 10)
 (Wf Tryd.prog H 59 [goI n, goI 0, goI 8] [] =
 some (goB (U.within n 0 8), [], []) ∧
 TB (U.within n 0 8)
 (Wf Tryd.prog H 59 [goI m, goI 0, goI 8] [] =
 some (goB (U.within m 0 8), [], []) ∧
 (goB (U.within m 0 8), [], []) = r)
 ((goB false, [], []) = r))
 (TB (op == 11)
 (Wf Tryd.prog H 59 [goI n, goI 0, goI 7] [] =
 some (goB (U.within n 0 7), [], []) ∧
 (goB (U.within n 0 7), [], []) = r)
 (TB (op == 12)
 (Wf Tryd.prog H 59 [goI n, goI 0, goI 7] [] =
 some (goB (U.within n 0 7), [], []) ∧
 (goB (U.within n 0 7), [], []) = r)
 (TB (op == 13)
 (Wf Tryd.prog H 59 [goI n, goI 0, goI 7] [] =
 some (goB (U.within n 0 7), [], []) ∧
 (goB (U.within n 0 7), [], []) = r)
 (TB (op == 14)
 (Wf Tryd.prog H 59 [goI n, goI 0, goI 7] [] =
 some (goB (U.within n 0 7), [], []) ∧
 (goB (U.within n 0 7), [], []) = r)
 (TB (op == 15)
 (Wf Tryd.prog H 59 [goI n, goI 0, goI 7] [] =
 some (goB (U.within n 0 7), [], []) ∧
 (goB (U.within n 0 7), [], []) = r)
 ((goB true, [], []) = r))))))))))
 (LoopTo Tryd.prog H (H 61) 0 (loopOf Tryd.prog 61 15)
 (mkS 136
 [(3, AV.pt 0 0 0), (5, AV.pt 1 0 0), (7, AV.pt 2 0 0),
 (12, AV.sl (List.map encI nx)), (13, goI 0)]
 [Row.box [AV.sl (List.map encF P)],
 Row.box
 [goI op, goI d, goI a, goI b, goI n, goI m, AV.sl (List.map encI l)],
 Row.box
 [AV.sl (rdL (rowAt (List.map encF P) i) 0),
 AV.sl (rdL (rowAt (List.map encF P) i) 1),
 goI (rdI (rowAt (List.map encF P) i) 2),
 goI (rdI (rowAt (List.map encF P) i) 3),
 AV.sl (rdL (rowAt (List.map encF P) i) 4)],
 Row.dead])
 (Ex.ret, mkS 136 [(6, goB false)] [Row.dead, Row.dead, Row.dead, Row.dead]) ∧
 (goB false, [], []) = r))
 (LoopTo Tryd.prog H (H 61) 0 (loopOf Tryd.prog 61 9)
 (mkS 136
 [(3, AV.pt 0 0 0), (5, AV.pt 1 0 0), (7, AV.pt 2 0 0),
 (8, AV.os 3 0 (List.length us + 1)), (11, goI 0)]
 [Row.box [AV.sl (List.map encF P)],
 Row.box [goI op, goI d, goI a, goI b, goI n, goI m, AV.sl (List.map encI l)],
 Row.box
 [AV.sl (rdL (rowAt (List.map encF P) i) 0),
 AV.sl (rdL (rowAt (List.map encF P) i) 1),
 goI (rdI (rowAt (List.map encF P) i) 2),
 goI (rdI (rowAt (List.map encF P) i) 3),
 AV.sl (rdL (rowAt (List.map encF P) i) 4)],
 Row.arr 1 (List.map encI us ++ [[goI d]])])
 (Ex.ret, mkS 136 [(6, goB false)] [Row.dead, Row.dead, Row.dead, Row.dead]) ∧
 (goB false, [], []) = r))
 (Wf Tryd.prog H 82 [AV.agg [goI op, goI d, goI a, goI b, goI n, goI m, AV.sl (List.map encI l)]]
 [] =
 some (AV.tup [goI 0, goB false], [], []) ∧
 TB b1
 (LoopTo Tryd.prog H (H 61) 0 (loopOf Tryd.prog 61 9)
 (mkS 136
 [(3, AV.pt 0 0 0), (5, AV.pt 1 0 0), (7, AV.pt 2 0 0), (8, AV.os 3 0 (List.length us)),
 (11, goI 0)]
 [Row.box [AV.sl (List.map encF P)],
 Row.box [goI op, goI d, goI a, goI b, goI n, goI m, AV.sl (List.map encI l)],
 Row.box
 [AV.sl (rdL (rowAt (List.map encF P) i) 0),
 AV.sl (rdL (rowAt (List.map encF P) i) 1),
 goI (rdI (rowAt (List.map encF P) i) 2), goI (rdI (rowAt (List.map encF P) i) 3),
 AV.sl (rdL (rowAt (List.map encF P) i) 4)],
 Row.arr 1 (List.map encI us)])
 (Ex.exit 0,
 mkS 136 [(3, AV.pt 0 0 0), (5, AV.pt 1 0 0), (7, AV.pt 2 0 0)]
 [Row.box [AV.sl (List.map encF P)],
 Row.box [goI op, goI d, goI a, goI b, goI n, goI m, AV.sl (List.map encI l)],
 Row.box
 [AV.sl (rdL (rowAt (List.map encF P) i) 0),
 AV.sl (rdL (rowAt (List.map encF P) i) 1),
 goI (rdI (rowAt (List.map encF P) i) 2),
 goI (rdI (rowAt (List.map encF P) i) 3),
 AV.sl (rdL (rowAt (List.map encF P) i) 4)],
 Row.dead]) ∧
 Wf Tryd.prog H 77
 [AV.agg [goI op, goI d, goI a, goI b, goI n, goI m, AV.sl (List.map encI l)]] [] =
 some (AV.sl (List.map encI nx), [], []) ∧
 TB b2
 (LoopTo Tryd.prog H (H 61) 0 (loopOf Tryd.prog 61 15)
 (mkS 136
 [(3, AV.pt 0 0 0), (5, AV.pt 1 0 0), (7, AV.pt 2 0 0),
 (12, AV.sl (List.map encI nx)), (13, goI 0)]
 [Row.box [AV.sl (List.map encF P)],
 Row.box [goI op, goI d, goI a, goI b, goI n, goI m, AV.sl (List.map encI l)],
 Row.box
 [AV.sl (rdL (rowAt (List.map encF P) i) 0),
 AV.sl (rdL (rowAt (List.map encF P) i) 1),
 goI (rdI (rowAt (List.map encF P) i) 2),
 goI (rdI (rowAt (List.map encF P) i) 3),
 AV.sl (rdL (rowAt (List.map encF P) i) 4)],
 Row.dead])
 (Ex.exit 2,
 mkS 136 [(3, AV.pt 0 0 0), (5, AV.pt 1 0 0)]
 [Row.box [AV.sl (List.map encF P)],
 Row.box [goI op, goI d, goI a, goI b, goI n, goI m, AV.sl (List.map encI l)],
 Row.box
 [AV.sl (rdL (rowAt (List.map encF P) i) 0),
 AV.sl (rdL (rowAt (List.map encF P) i) 1),
 goI (rdI (rowAt (List.map encF P) i) 2),
 goI (rdI (rowAt (List.map encF P) i) 3),
 AV.sl (rdL (rowAt (List.map encF P) i) 4)],
 Row.dead]) ∧
 TB (op == 19)
 (Wf Tryd.prog H 59
 [goI n, goI 0,
 goI
 (IntKind.wrap IntKind.i64 ((↑(List.length (List.map encF P)) : Int) - 1))]
 [] =
 some
 (goB
 (U.within n 0
 (IntKind.wrap IntKind.i64
 ((↑(List.length (List.map encF P)) : Int) - 1))),
 [], []) ∧
 TB
 (U.within n 0
 (IntKind.wrap IntKind.i64 ((↑(List.length (List.map encF P)) : Int) - 1)))
 ((0 ≤ n ∧
 (List.map encF P)[Int.toNat n]? =
 some
 [AV.sl (rdL (rowAt (List.map encF P) (Int.toNat n)) 0),
 AV.sl (rdL (rowAt (List.map encF P) (Int.toNat n)) 1),
 goI (rdI (rowAt (List.map encF P) (Int.toNat n)) 2),
 goI (rdI (rowAt (List.map encF P) (Int.toNat n)) 3),
 AV.sl (rdL (rowAt (List.map encF P) (Int.toNat n)) 4)]) ∧
 (goB
 ((↑(List.length (List.map encI l)) : Int) ==
 rdI (rowAt (List.map encF P) (Int.toNat n)) 2),
 [], []) =
 r)
 ((goB false, [], []) = r))
 (TB (op == 1)
 (Wf Tryd.prog H 59 [goI n, goI (-2147483648), goI 2147483648] [] =
 some (goB (U.within n (-2147483648) 2147483648), [], []) ∧
 (goB (U.within n (-2147483648) 2147483648), [], []) = r)
 (TB (op == 16)
 (Wf Tryd.prog H 59 [goI n, goI (-8), goI 8] [] =
 some (goB (U.within n (-8) 8), [], []) ∧
 (goB (U.within n (-8) 8), [], []) = r)
 (TB (op == 10)
 (Wf Tryd.prog H 59 [goI n, goI 0, goI 8] [] =
 some (goB (U.within n 0 8), [], []) ∧
 TB (U.within n 0 8)
 (Wf Tryd.prog H 59 [goI m, goI 0, goI 8] [] =
 some (goB (U.within m 0 8), [], []) ∧
 (goB (U.within m 0 8), [], []) = r)
 ((goB false, [], []) = r))
 (TB (op == 11)
 (Wf Tryd.prog H 59 [goI n, goI 0, goI 7] [] =
 some (goB (U.within n 0 7), [], []) ∧
 (goB (U.within n 0 7), [], []) = r)
 (TB (op == 12)
 (Wf Tryd.prog H 59 [goI n, goI 0, goI 7] [] =
 some (goB (U.within n 0 7), [], []) ∧
 (goB (U.within n 0 7), [], []) = r)
 (TB (op == 13)
 (Wf Tryd.prog H 59 [goI n, goI 0, goI 7] [] =
 some (goB (U.within n 0 7), [], []) ∧
 (goB (U.within n 0 7), [], []) = r)
 (TB (op == 14)
 (Wf Tryd.prog H 59 [goI n, goI 0, goI 7] [] =
 some (goB (U.within n 0 7), [], []) ∧
 (goB (U.within n 0 7), [], []) = r)
 (TB (op == 15)
 (Wf Tryd.prog H 59 [goI n, goI 0, goI 7] [] =
 some (goB (U.within n 0 7), [], []) ∧
 (goB (U.within n 0 7), [], []) = r)
 ((goB true, [], []) = r))))))))))
 (LoopTo Tryd.prog H (H 61) 0 (loopOf Tryd.prog 61 15)
 (mkS 136
 [(3, AV.pt 0 0 0), (5, AV.pt 1 0 0), (7, AV.pt 2 0 0),
 (12, AV.sl (List.map encI nx)), (13, goI 0)]
 [Row.box [AV.sl (List.map encF P)],
 Row.box [goI op, goI d, goI a, goI b, goI n, goI m, AV.sl (List.map encI l)],
 Row.box
 [AV.sl (rdL (rowAt (List.map encF P) i) 0),
 AV.sl (rdL (rowAt (List.map encF P) i) 1),
 goI (rdI (rowAt (List.map encF P) i) 2),
 goI (rdI (rowAt (List.map encF P) i) 3),
 AV.sl (rdL (rowAt (List.map encF P) i) 4)],
 Row.dead])
 (Ex.ret, mkS 136 [(6, goB false)] [Row.dead, Row.dead, Row.dead, Row.dead]) ∧
 (goB false, [], []) = r))
 (LoopTo Tryd.prog H (H 61) 0 (loopOf Tryd.prog 61 9)
 (mkS 136
 [(3, AV.pt 0 0 0), (5, AV.pt 1 0 0), (7, AV.pt 2 0 0), (8, AV.os 3 0 (List.length us)),
 (11, goI 0)]
 [Row.box [AV.sl (List.map encF P)],
 Row.box [goI op, goI d, goI a, goI b, goI n, goI m, AV.sl (List.map encI l)],
 Row.box
 [AV.sl (rdL (rowAt (List.map encF P) i) 0),
 AV.sl (rdL (rowAt (List.map encF P) i) 1),
 goI (rdI (rowAt (List.map encF P) i) 2), goI (rdI (rowAt (List.map encF P) i) 3),
 AV.sl (rdL (rowAt (List.map encF P) i) 4)],
 Row.arr 1 (List.map encI us)])
 (Ex.ret, mkS 136 [(6, goB false)] [Row.dead, Row.dead, Row.dead, Row.dead]) ∧
 (goB false, [], []) = r)))
 (Wf Tryd.prog H 81 [AV.agg [goI op, goI d, goI a, goI b, goI n, goI m, AV.sl (List.map encI l)]] [] =
 some (AV.nil, [], []) ∧
 TB sd
 (Wf Tryd.prog H 82 [AV.agg [goI op, goI d, goI a, goI b, goI n, goI m, AV.sl (List.map encI l)]] [] =
 some (AV.tup [goI d, goB true], [], []) ∧
 true = true ∧
 1 ≤ 1000000 ∧
 TB b1
 (LoopTo Tryd.prog H (H 61) 0 (loopOf Tryd.prog 61 9)
 (mkS 136
 [(3, AV.pt 0 0 0), (5, AV.pt 1 0 0), (7, AV.pt 2 0 0), (8, AV.os 3 0 1), (11, goI 0)]
 [Row.box [AV.sl (List.map encF P)],
 Row.box [goI op, goI d, goI a, goI b, goI n, goI m, AV.sl (List.map encI l)],
 Row.box
 [AV.sl (rdL (rowAt (List.map encF P) i) 0),
 AV.sl (rdL (rowAt (List.map encF P) i) 1),
 goI (rdI (rowAt (List.map encF P) i) 2),
 goI (rdI (rowAt (List.map encF P) i) 3),
 AV.sl (rdL (rowAt (List.map encF P) i) 4)],
 Row.arr 1 [[goI d]]])
 (Ex.exit 0,
 mkS 136 [(3, AV.pt 0 0 0), (5, AV.pt 1 0 0), (7, AV.pt 2 0 0)]
 [Row.box [AV.sl (List.map encF P)],
 Row.box [goI op, goI d, goI a, goI b, goI n, goI m, AV.sl (List.map encI l)],
 Row.box
 [AV.sl (rdL (rowAt (List.map encF P) i) 0),
 AV.sl (rdL (rowAt (List.map encF P) i) 1),
 goI (rdI (rowAt (List.map encF P) i) 2),
 goI (rdI (rowAt (List.map encF P) i) 3),
 AV.sl (rdL (rowAt (List.map encF P) i) 4)],
 Row.dead]) ∧
 Wf Tryd.prog H 77
 [AV.agg [goI op, goI d, goI a, goI b, goI n, goI m, AV.sl (List.map encI l)]] [] =
 some (AV.sl (List.map encI nx), [], []) ∧
 TB b2
 (LoopTo Tryd.prog H (H 61) 0 (loopOf Tryd.prog 61 15)
 (mkS 136
 [(3, AV.pt 0 0 0), (5, AV.pt 1 0 0), (7, AV.pt 2 0 0),
 (12, AV.sl (List.map encI nx)), (13, goI 0)]
 [Row.box [AV.sl (List.map encF P)],
 Row.box [goI op, goI d, goI a, goI b, goI n, goI m, AV.sl (List.map encI l)],
 Row.box
 [AV.sl (rdL (rowAt (List.map encF P) i) 0),
 AV.sl (rdL (rowAt (List.map encF P) i) 1),
 goI (rdI (rowAt (List.map encF P) i) 2),
 goI (rdI (rowAt (List.map encF P) i) 3),
 AV.sl (rdL (rowAt (List.map encF P) i) 4)],
 Row.dead])
 (Ex.exit 2,
 mkS 136 [(3, AV.pt 0 0 0), (5, AV.pt 1 0 0)]
 [Row.box [AV.sl (List.map encF P)],
 Row.box
 [goI op, goI d, goI a, goI b, goI n, goI m, AV.sl (List.map encI l)],
 Row.box
 [AV.sl (rdL (rowAt (List.map encF P) i) 0),
 AV.sl (rdL (rowAt (List.map encF P) i) 1),
 goI (rdI (rowAt (List.map encF P) i) 2),
 goI (rdI (rowAt (List.map encF P) i) 3),
 AV.sl (rdL (rowAt (List.map encF P) i) 4)],
 Row.dead]) ∧
 TB (op == 19)
 (Wf Tryd.prog H 59
 [goI n, goI 0,
 goI
 (IntKind.wrap IntKind.i64
 ((↑(List.length (List.map encF P)) : Int) - 1))]
 [] =
 some
 (goB
 (U.within n 0
 (IntKind.wrap IntKind.i64
 ((↑(List.length (List.map encF P)) : Int) - 1))),
 [], []) ∧
 TB
 (U.within n 0
 (IntKind.wrap IntKind.i64 ((↑(List.length (List.map encF P)) : Int) - 1)))
 ((0 ≤ n ∧
 (List.map encF P)[Int.toNat n]? =
 some
 [AV.sl (rdL (rowAt (List.map encF P) (Int.toNat n)) 0),
 AV.sl (rdL (rowAt (List.map encF P) (Int.toNat n)) 1),
 goI (rdI (rowAt (List.map encF P) (Int.toNat n)) 2),
 goI (rdI (rowAt (List.map encF P) (Int.toNat n)) 3),
 AV.sl (rdL (rowAt (List.map encF P) (Int.toNat n)) 4)]) ∧
 (goB
 ((↑(List.length (List.map encI l)) : Int) ==
 rdI (rowAt (List.map encF P) (Int.toNat n)) 2),
 [], []) =
 r)
 ((goB false, [], []) = r))
 (TB (op == 1)
 (Wf Tryd.prog H 59 [goI n, goI (-2147483648), goI 2147483648] [] =
 some (goB (U.within n (-2147483648) 2147483648), [], []) ∧
 (goB (U.within n (-2147483648) 2147483648), [], []) = r)
 (TB (op == 16)
 (Wf Tryd.prog H 59 [goI n, goI (-8), goI 8] [] =
 some (goB (U.within n (-8) 8), [], []) ∧
 (goB (U.within n (-8) 8), [], []) = r)
 (TB (op == 10)
 (Wf Tryd.prog H 59 [goI n, goI 0, goI 8] [] =
 some (goB (U.within n 0 8), [], []) ∧
 TB (U.within n 0 8)
 (Wf Tryd.prog H 59 [goI m, goI 0, goI 8] [] =
 some (goB (U.within m 0 8), [], []) ∧
 (goB (U.within m 0 8), [], []) = r)
 ((goB false, [], []) = r))
 (TB (op == 11)
 (Wf Tryd.prog H 59 [goI n, goI 0, goI 7] [] =
 some (goB (U.within n 0 7), [], []) ∧
 (goB (U.within n 0 7), [], []) = r)
 (TB (op == 12)
 (Wf Tryd.prog H 59 [goI n, goI 0, goI 7] [] =
 some (goB (U.within n 0 7), [], []) ∧
 (goB (U.within n 0 7), [], []) = r)
 (TB (op == 13)
 (Wf Tryd.prog H 59 [goI n, goI 0, goI 7] [] =
 some (goB (U.within n 0 7), [], []) ∧
 (goB (U.within n 0 7), [], []) = r)
 (TB (op == 14)
 (Wf Tryd.prog H 59 [goI n, goI 0, goI 7] [] =
 some (goB (U.within n 0 7), [], []) ∧
 (goB (U.within n 0 7), [], []) = r)
 (TB (op == 15)
 (Wf Tryd.prog H 59 [goI n, goI 0, goI 7] [] =
 some (goB (U.within n 0 7), [], []) ∧
 (goB (U.within n 0 7), [], []) = r)
 ((goB true, [], []) = r))))))))))
 (LoopTo Tryd.prog H (H 61) 0 (loopOf Tryd.prog 61 15)
 (mkS 136
 [(3, AV.pt 0 0 0), (5, AV.pt 1 0 0), (7, AV.pt 2 0 0),
 (12, AV.sl (List.map encI nx)), (13, goI 0)]
 [Row.box [AV.sl (List.map encF P)],
 Row.box [goI op, goI d, goI a, goI b, goI n, goI m, AV.sl (List.map encI l)],
 Row.box
 [AV.sl (rdL (rowAt (List.map encF P) i) 0),
 AV.sl (rdL (rowAt (List.map encF P) i) 1),
 goI (rdI (rowAt (List.map encF P) i) 2),
 goI (rdI (rowAt (List.map encF P) i) 3),
 AV.sl (rdL (rowAt (List.map encF P) i) 4)],
 Row.dead])
 (Ex.ret, mkS 136 [(6, goB false)] [Row.dead, Row.dead, Row.dead, Row.dead]) ∧
 (goB false, [], []) = r))
 (LoopTo Tryd.prog H (H 61) 0 (loopOf Tryd.prog 61 9)
 (mkS 136
 [(3, AV.pt 0 0 0), (5, AV.pt 1 0 0), (7, AV.pt 2 0 0), (8, AV.os 3 0 1), (11, goI 0)]
 [Row.box [AV.sl (List.map encF P)],
 Row.box [goI op, goI d, goI a, goI b, goI n, goI m, AV.sl (List.map encI l)],
 Row.box
 [AV.sl (rdL (rowAt (List.map encF P) i) 0),
 AV.sl (rdL (rowAt (List.map encF P) i) 1),
 goI (rdI (rowAt (List.map encF P) i) 2),
 goI (rdI (rowAt (List.map encF P) i) 3),
 AV.sl (rdL (rowAt (List.map encF P) i) 4)],
 Row.arr 1 [[goI d]]])
 (Ex.ret, mkS 136 [(6, goB false)] [Row.dead, Row.dead, Row.dead, Row.dead]) ∧
 (goB false, [], []) = r))
 (Wf Tryd.prog H 82 [AV.agg [goI op, goI d, goI a, goI b, goI n, goI m, AV.sl (List.map encI l)]] [] =
 some (AV.tup [goI 0, goB false], [], []) ∧
 TB b1
 (LoopTo Tryd.prog H (H 61) 0 (loopOf Tryd.prog 61 9)
 (mkS 136
 [(3, AV.pt 0 0 0), (5, AV.pt 1 0 0), (7, AV.pt 2 0 0), (8, AV.os 3 0 0), (11, goI 0)]
 [Row.box [AV.sl (List.map encF P)],
 Row.box [goI op, goI d, goI a, goI b, goI n, goI m, AV.sl (List.map encI l)],
 Row.box
 [AV.sl (rdL (rowAt (List.map encF P) i) 0), AV.sl (rdL (rowAt (List.map encF P) i) 1),
 goI (rdI (rowAt (List.map encF P) i) 2), goI (rdI (rowAt (List.map encF P) i) 3),
 AV.sl (rdL (rowAt (List.map encF P) i) 4)],
 Row.arr 1 []])
 (Ex.exit 0,
 mkS 136 [(3, AV.pt 0 0 0), (5, AV.pt 1 0 0), (7, AV.pt 2 0 0)]
 [Row.box [AV.sl (List.map encF P)],
 Row.box [goI op, goI d, goI a, goI b, goI n, goI m, AV.sl (List.map encI l)],
 Row.box
 [AV.sl (rdL (rowAt (List.map encF P) i) 0),
 AV.sl (rdL (rowAt (List.map encF P) i) 1),
 goI (rdI (rowAt (List.map encF P) i) 2), goI (rdI (rowAt (List.map encF P) i) 3),
 AV.sl (rdL (rowAt (List.map encF P) i) 4)],
 Row.dead]) ∧
 Wf Tryd.prog H 77 [AV.agg [goI op, goI d, goI a, goI b, goI n, goI m, AV.sl (List.map encI l)]]
 [] =
 some (AV.sl (List.map encI nx), [], []) ∧
 TB b2
 (LoopTo Tryd.prog H (H 61) 0 (loopOf Tryd.prog 61 15)
 (mkS 136
 [(3, AV.pt 0 0 0), (5, AV.pt 1 0 0), (7, AV.pt 2 0 0),
 (12, AV.sl (List.map encI nx)), (13, goI 0)]
 [Row.box [AV.sl (List.map encF P)],
 Row.box [goI op, goI d, goI a, goI b, goI n, goI m, AV.sl (List.map encI l)],
 Row.box
 [AV.sl (rdL (rowAt (List.map encF P) i) 0),
 AV.sl (rdL (rowAt (List.map encF P) i) 1),
 goI (rdI (rowAt (List.map encF P) i) 2),
 goI (rdI (rowAt (List.map encF P) i) 3),
 AV.sl (rdL (rowAt (List.map encF P) i) 4)],
 Row.dead])
 (Ex.exit 2,
 mkS 136 [(3, AV.pt 0 0 0), (5, AV.pt 1 0 0)]
 [Row.box [AV.sl (List.map encF P)],
 Row.box [goI op, goI d, goI a, goI b, goI n, goI m, AV.sl (List.map encI l)],
 Row.box
 [AV.sl (rdL (rowAt (List.map encF P) i) 0),
 AV.sl (rdL (rowAt (List.map encF P) i) 1),
 goI (rdI (rowAt (List.map encF P) i) 2),
 goI (rdI (rowAt (List.map encF P) i) 3),
 AV.sl (rdL (rowAt (List.map encF P) i) 4)],
 Row.dead]) ∧
 TB (op == 19)
 (Wf Tryd.prog H 59
 [goI n, goI 0,
 goI (IntKind.wrap IntKind.i64 ((↑(List.length (List.map encF P)) : Int) - 1))]
 [] =
 some
 (goB
 (U.within n 0
 (IntKind.wrap IntKind.i64
 ((↑(List.length (List.map encF P)) : Int) - 1))),
 [], []) ∧
 TB
 (U.within n 0
 (IntKind.wrap IntKind.i64 ((↑(List.length (List.map encF P)) : Int) - 1)))
 ((0 ≤ n ∧
 (List.map encF P)[Int.toNat n]? =
 some
 [AV.sl (rdL (rowAt (List.map encF P) (Int.toNat n)) 0),
 AV.sl (rdL (rowAt (List.map encF P) (Int.toNat n)) 1),
 goI (rdI (rowAt (List.map encF P) (Int.toNat n)) 2),
 goI (rdI (rowAt (List.map encF P) (Int.toNat n)) 3),
 AV.sl (rdL (rowAt (List.map encF P) (Int.toNat n)) 4)]) ∧
 (goB
 ((↑(List.length (List.map encI l)) : Int) ==
 rdI (rowAt (List.map encF P) (Int.toNat n)) 2),
 [], []) =
 r)
 ((goB false, [], []) = r))
 (TB (op == 1)
 (Wf Tryd.prog H 59 [goI n, goI (-2147483648), goI 2147483648] [] =
 some (goB (U.within n (-2147483648) 2147483648), [], []) ∧
 (goB (U.within n (-2147483648) 2147483648), [], []) = r)
 (TB (op == 16)
 (Wf Tryd.prog H 59 [goI n, goI (-8), goI 8] [] =
 some (goB (U.within n (-8) 8), [], []) ∧
 (goB (U.within n (-8) 8), [], []) = r)
 (TB (op == 10)
 (Wf Tryd.prog H 59 [goI n, goI 0, goI 8] [] =
 some (goB (U.within n 0 8), [], []) ∧
 TB (U.within n 0 8)
 (Wf Tryd.prog H 59 [goI m, goI 0, goI 8] [] =
 some (goB (U.within m 0 8), [], []) ∧
 (goB (U.within m 0 8), [], []) = r)
 ((goB false, [], []) = r))
 (TB (op == 11)
 (Wf Tryd.prog H 59 [goI n, goI 0, goI 7] [] =
 some (goB (U.within n 0 7), [], []) ∧
 (goB (U.within n 0 7), [], []) = r)
 (TB (op == 12)
 (Wf Tryd.prog H 59 [goI n, goI 0, goI 7] [] =
 some (goB (U.within n 0 7), [], []) ∧
 (goB (U.within n 0 7), [], []) = r)
 (TB (op == 13)
 (Wf Tryd.prog H 59 [goI n, goI 0, goI 7] [] =
 some (goB (U.within n 0 7), [], []) ∧
 (goB (U.within n 0 7), [], []) = r)
 (TB (op == 14)
 (Wf Tryd.prog H 59 [goI n, goI 0, goI 7] [] =
 some (goB (U.within n 0 7), [], []) ∧
 (goB (U.within n 0 7), [], []) = r)
 (TB (op == 15)
 (Wf Tryd.prog H 59 [goI n, goI 0, goI 7] [] =
 some (goB (U.within n 0 7), [], []) ∧
 (goB (U.within n 0 7), [], []) = r)
 ((goB true, [], []) = r))))))))))
 (LoopTo Tryd.prog H (H 61) 0 (loopOf Tryd.prog 61 15)
 (mkS 136
 [(3, AV.pt 0 0 0), (5, AV.pt 1 0 0), (7, AV.pt 2 0 0),
 (12, AV.sl (List.map encI nx)), (13, goI 0)]
 [Row.box [AV.sl (List.map encF P)],
 Row.box [goI op, goI d, goI a, goI b, goI n, goI m, AV.sl (List.map encI l)],
 Row.box
 [AV.sl (rdL (rowAt (List.map encF P) i) 0),
 AV.sl (rdL (rowAt (List.map encF P) i) 1),
 goI (rdI (rowAt (List.map encF P) i) 2),
 goI (rdI (rowAt (List.map encF P) i) 3),
 AV.sl (rdL (rowAt (List.map encF P) i) 4)],
 Row.dead])
 (Ex.ret, mkS 136 [(6, goB false)] [Row.dead, Row.dead, Row.dead, Row.dead]) ∧
 (goB false, [], []) = r))
 (LoopTo Tryd.prog H (H 61) 0 (loopOf Tryd.prog 61 9)
 (mkS 136
 [(3, AV.pt 0 0 0), (5, AV.pt 1 0 0), (7, AV.pt 2 0 0), (8, AV.os 3 0 0), (11, goI 0)]
 [Row.box [AV.sl (List.map encF P)],
 Row.box [goI op, goI d, goI a, goI b, goI n, goI m, AV.sl (List.map encI l)],
 Row.box
 [AV.sl (rdL (rowAt (List.map encF P) i) 0), AV.sl (rdL (rowAt (List.map encF P) i) 1),
 goI (rdI (rowAt (List.map encF P) i) 2), goI (rdI (rowAt (List.map encF P) i) 3),
 AV.sl (rdL (rowAt (List.map encF P) i) 4)],
 Row.arr 1 []])
 (Ex.ret, mkS 136 [(6, goB false)] [Row.dead, Row.dead, Row.dead, Row.dead]) ∧
 (goB false, [], []) = r))))))) := by kernel_rfl
theorem t69_9 (X : List (List AV)) (Y : List (List AV)) (op : Int) (d : Int) (a : Int) (b : Int) (n : Int) (m : Int) (ks : List (List AV)) (bs : List (List AV)) (bl : List (List AV)) (p : Int) (q : Int) (us : List Int) (i : Nat) (r : Ex × St) : (turnT Tryd.prog H (F69 false us false false 0 us) L0 false (H 61) 0 (loopOf Tryd.prog 61 9)
 (mkS 136 [(3, AV.pt 0 0 0), (5, AV.pt 1 0 0), (7, AV.pt 2 0 0), (8, AV.os 3 0 (List.length us)), (11, goI (↑i : Int))]
 [Row.box [AV.sl X], Row.box [goI op, goI d, goI a, goI b, goI n, goI m, AV.sl Y],
 Row.box [AV.sl ks, AV.sl bs, goI p, goI q, AV.sl bl], Row.arr 1 (List.map encI us)])
 r) = (TB (decide ((↑i : Int) < (↑(List.length us) : Int)))
 ((0 ≤ (↑i : Int) ∧ (↑i : Int) < (↑(List.length us) : Int) ∧ 0 + i < List.length (List.map encI us)) ∧
 cutAt 1 0 (List.map encI us)[0 + i]? = some [goI (rdI (rowAt (List.map encI us) (0 + i)) 0)] ∧
 Wf Tryd.prog H 59
 [goI (rdI (rowAt (List.map encI us) (0 + i)) 0), goI 0,
 goI (IntKind.wrap IntKind.i64 ((↑(List.length ks) : Int) - 1))]
 [] =
 some
 (goB
 (U.within (rdI (rowAt (List.map encI us) (0 + i)) 0) 0
 (IntKind.wrap IntKind.i64 ((↑(List.length ks) : Int) - 1))),
 [], []) ∧
 TB
 (!U.within (rdI (rowAt (List.map encI us) (0 + i)) 0) 0
 (IntKind.wrap IntKind.i64 ((↑(List.length ks) : Int) - 1)))
 ((Ex.ret, mkS 136 [(6, goB false)] [Row.dead, Row.dead, Row.dead, Row.dead]) = r)
 (LoopTo Tryd.prog H (H 61) 0 (loopOf Tryd.prog 61 9)
 (mkS 136
 [(3, AV.pt 0 0 0), (5, AV.pt 1 0 0), (7, AV.pt 2 0 0), (8, AV.os 3 0 (List.length us)),
 (11, goI (IntKind.wrap IntKind.i64 ((↑i : Int) + 1)))]
 [Row.box [AV.sl X], Row.box [goI op, goI d, goI a, goI b, goI n, goI m, AV.sl Y],
 Row.box [AV.sl ks, AV.sl bs, goI p, goI q, AV.sl bl], Row.arr 1 (List.map encI us)])
 r))
 ((Ex.exit 0,
 mkS 136 [(3, AV.pt 0 0 0), (5, AV.pt 1 0 0), (7, AV.pt 2 0 0)]
 [Row.box [AV.sl X], Row.box [goI op, goI d, goI a, goI b, goI n, goI m, AV.sl Y],
 Row.box [AV.sl ks, AV.sl bs, goI p, goI q, AV.sl bl], Row.dead]) =
 r)) := by kernel_rfl
theorem t69_15 (X : List (List AV)) (Y : List (List AV)) (op : Int) (d : Int) (a : Int) (b : Int) (n : Int) (m : Int) (ks : List (List AV)) (bs : List (List AV)) (bl : List (List AV)) (p : Int) (q : Int) (us : List Int) (i : Nat) (r : Ex × St) : (turnT Tryd.prog H (F69 false us false false 0 us) L0 false (H 61) 0 (loopOf Tryd.prog 61 15)
 (mkS 136 [(3, AV.pt 0 0 0), (5, AV.pt 1 0 0), (7, AV.pt 2 0 0), (12, AV.sl (List.map encI us)), (13, goI (↑i : Int))]
 [Row.box [AV.sl X], Row.box [goI op, goI d, goI a, goI b, goI n, goI m, AV.sl Y],
 Row.box [AV.sl ks, AV.sl bs, goI p, goI q, AV.sl bl], Row.dead])
 r) = (TB (decide ((↑i : Int) < (↑(List.length (List.map encI us)) : Int)))
 ((0 ≤ (↑i : Int) ∧ (List.map encI us)[i]? = some [goI (rdI (rowAt (List.map encI us) i) 0)]) ∧
 Wf Tryd.prog H 59
 [goI (rdI (rowAt (List.map encI us) i) 0), goI 1,
 goI (IntKind.wrap IntKind.i64 ((↑(List.length bl) : Int) - 1))]
 [] =
 some
 (goB
 (U.within (rdI (rowAt (List.map encI us) i) 0) 1
 (IntKind.wrap IntKind.i64 ((↑(List.length bl) : Int) - 1))),
 [], []) ∧
 TB (!U.within (rdI (rowAt (List.map encI us) i) 0) 1 (IntKind.wrap IntKind.i64 ((↑(List.length bl) : Int) - 1)))
 ((Ex.ret, mkS 136 [(6, goB false)] [Row.dead, Row.dead, Row.dead, Row.dead]) = r)
 (LoopTo Tryd.prog H (H 61) 0 (loopOf Tryd.prog 61 15)
 (mkS 136
 [(3, AV.pt 0 0 0), (5, AV.pt 1 0 0), (7, AV.pt 2 0 0), (12, AV.sl (List.map encI us)),
 (13, goI (IntKind.wrap IntKind.i64 ((↑i : Int) + 1)))]
 [Row.box [AV.sl X], Row.box [goI op, goI d, goI a, goI b, goI n, goI m, AV.sl Y],
 Row.box [AV.sl ks, AV.sl bs, goI p, goI q, AV.sl bl], Row.dead])
 r))
 ((Ex.exit 2,
 mkS 136 [(3, AV.pt 0 0 0), (5, AV.pt 1 0 0)]
 [Row.box [AV.sl X], Row.box [goI op, goI d, goI a, goI b, goI n, goI m, AV.sl Y],
 Row.box [AV.sl ks, AV.sl bs, goI p, goI q, AV.sl bl], Row.dead]) =
 r)) := by kernel_rfl
theorem inFrom_step (l : List Int) (a b : Int) {i : Nat} (h : i < l.length) : U.inFrom l a b i = (U.within (U.nt l i) a b && U.inFrom l a b (i + 1)) := allFrom_step _ h
theorem inFrom_end {l : List Int} {a b : Int} {i : Nat} (h : l.length ≤ i) : U.inFrom l a b i = true := allFrom_end _ h
theorem inFrom_iff (l : List Int) (a b : Int) : U.inFrom l a b 0 = true ↔ ∀ x ∈ l, a ≤ x ∧ x ≤ b := by
  unfold U.inFrom
  rw [allFrom_iff]
  constructor
  · intro h x hx
    obtain ⟨j, hj, rfl⟩ := mem_getD hx
    exact (within_iff _ _ _).1 (h j (Nat.zero_le _) hj)
  · intro h j _ hj
    exact (within_iff _ _ _).2 (h _ (getD_mem hj))
section
variable (X Y : List (List AV)) (op d a b n m : Int) (ks bs bl : List (List AV)) (p q : Int)
def bx69 (r : Row) : List Row := [.box [.sl X], .box [goI op, goI d, goI a, goI b, goI n, goI m, .sl Y], .box [.sl ks, .sl bs, goI p, goI q, .sl bl], r]
def de69 : List Row := [.dead, .dead, .dead, .dead]
theorem loop69_9 (hk : ks.length ≤ 3000) (us : List Int) (hu : us.length ≤ 4000) : ∀ (e i : Nat), i + e = us.length →
    LoopTo Tryd.prog H (H 61) 0 (loopOf Tryd.prog 61 9) (mkS 136 [(3, .pt 0 0 0), (5, .pt 1 0 0), (7, .pt 2 0 0), (8, .os 3 0 us.length), (11, goI i)] (bx69 X Y op d a b n m ks bs bl p q (.arr 1 (us.map encI))))
      (if U.inFrom us 0 ((ks.length : Int) - 1) i then (.exit 0, mkS 136 [(3, .pt 0 0 0), (5, .pt 1 0 0), (7, .pt 2 0 0)] (bx69 X Y op d a b n m ks bs bl p q .dead)) else (.ret, mkS 136 [(6, goB false)] de69))
  | 0, i, hd => by
    refine turnK (t69_9 X Y op d a b n m ks bs bl p q us i _) ?_
    rw [decide_eq_false (by omega), inFrom_end (by omega)]
    exact rfl
  | e + 1, i, hd => by
    have hi : i < us.length := by omega
    have ih := loop69_9 hk us hu e (i + 1) (by omega)
    refine turnK (t69_9 X Y op d a b n m ks bs bl p q us i _) ?_
    have w1 : IntKind.i64.wrap ((ks.length : Int) - 1) = (ks.length : Int) - 1 := by rw [wrap64] <;> omega
    rw [decide_eq_true (by omega), wrapS hi (by omega), w1, Nat.zero_add, rowI hi, getI hi, inFrom_step us _ _ hi, List.length_map]
    simp only [rdI, List.getD_cons_zero, int_goI]
    refine ⟨⟨by omega, by omega, by omega⟩, by trivial, wf67 _ _ _, ?_⟩
    cases U.within (U.nt us i) 0 ((ks.length : Int) - 1) with
    | false => exact rfl
    | true => exact ih
theorem loop69_15 (hk : bl.length ≤ 3000) (us : List Int) (hu : us.length ≤ 4000) : ∀ (e i : Nat), i + e = us.length →
    LoopTo Tryd.prog H (H 61) 0 (loopOf Tryd.prog 61 15) (mkS 136 [(3, .pt 0 0 0), (5, .pt 1 0 0), (7, .pt 2 0 0), (12, .sl (us.map encI)), (13, goI i)] (bx69 X Y op d a b n m ks bs bl p q .dead))
      (if U.inFrom us 1 ((bl.length : Int) - 1) i then (.exit 2, mkS 136 [(3, .pt 0 0 0), (5, .pt 1 0 0)] (bx69 X Y op d a b n m ks bs bl p q .dead)) else (.ret, mkS 136 [(6, goB false)] de69))
  | 0, i, hd => by
    refine turnK (t69_15 X Y op d a b n m ks bs bl p q us i _) ?_
    rw [List.length_map, decide_eq_false (by omega), inFrom_end (by omega)]
    exact rfl
  | e + 1, i, hd => by
    have hi : i < us.length := by omega
    have ih := loop69_15 hk us hu e (i + 1) (by omega)
    refine turnK (t69_15 X Y op d a b n m ks bs bl p q us i _) ?_
    have w1 : IntKind.i64.wrap ((bl.length : Int) - 1) = (bl.length : Int) - 1 := by rw [wrap64] <;> omega
    rw [List.length_map, decide_eq_true (by omega), wrapS hi (by omega), w1, rowI hi, getI hi, inFrom_step us _ _ hi]
    simp only [rdI, List.getD_cons_zero, int_goI]
    refine ⟨⟨by omega, by trivial⟩, wf67 _ _ _, ?_⟩
    cases U.within (U.nt us i) 1 ((bl.length : Int) - 1) with
    | false => exact rfl
    | true => exact ih
end
theorem uses_len (x : XI) (hl : x.args.length ≤ 3000) : (U.uses x).length ≤ 3002 := by
  unfold U.uses U.uses1
  rw [List.length_append, List.length_append]
  have h1 : (if U.has x.op 65 = true then [x.a] else []).length ≤ 1 := by split <;> simp
  have h2 : (if U.has x.op 66 = true then [x.b] else []).length ≤ 1 := by split <;> simp
  have h3 : (if U.has x.op 76 = true then x.args else []).length ≤ 3000 := by
    split
    · exact hl
    · exact Nat.zero_le _
  omega
theorem next_len (x : XI) : (U.next x).length ≤ 2 := by
  unfold U.next
  repeat' (first | (exact (by simp)) | split)
theorem uses_none {x : XI} (h : U.some x = false) : U.uses x = [] := by
  unfold U.some at h
  rw [Bool.or_eq_false_iff, Bool.or_eq_false_iff] at h
  unfold U.uses U.uses1
  rw [h.1.1, h.1.2, h.2]
  rfl
set_option maxHeartbeats 2000000 in
theorem wf69 (P : List XF) (i : Nat) (x : XI) (hP : P.length ≤ 3000) (hk : ∀ f ∈ P, f.kinds.length ≤ 3000 ∧ f.blocks.length ≤ 3000) (hl : x.args.length ≤ 3000) :
    Wf Tryd.prog H 61 [.agg [.sl (P.map encF)], goI i, .agg (encIn x)] [] = some (goB (U.okIns P i x), [], []) := by
  have e57 := wf57 x hl
  have e82 := wf82 x.op x.d x.a x.b x.n x.m x.args
  have e46 := wf46 x
  have e91 := wf91 x
  have hul := uses_len x hl
  have hnl := next_len x
  refine runK (t69 P i x.op x.d x.a x.b x.n x.m x.args (U.bare x) (U.uses x) (U.some x) (U.has x.op 68) (U.next x) (U.inFrom (U.vars x) 0 (((U.fun_ P i).kinds.length : Int) - 1) 0) (U.inFrom (U.next x) 1 (((U.fun_ P i).blocks.length : Int) - 1) 0) _) ?_
  have w1 : IntKind.i64.wrap ((P.length : Int) - 1) = (P.length : Int) - 1 := by rw [wrap64] <;> omega
  rw [List.length_map, w1]
  unfold U.okIns
  refine ⟨wf67 _ _ _, ?_⟩
  cases hw : U.within (i : Int) 0 ((P.length : Int) - 1) with
  | false => exact rfl
  | true =>
    obtain ⟨_, hi0⟩ := (within_iff _ _ _).1 hw
    have hi : i < P.length := by omega
    obtain ⟨gk, gb⟩ := hk _ (fun_mem hi)
    refine ⟨wf90 _, ?_⟩
    cases hp : ((U.parts x.op).toList == []) with
    | true => exact rfl
    | false =>
      refine ⟨e91, ?_⟩
      cases hb : U.bare x with
      | false => exact rfl
      | true =>
        rw [rowF hi, getF hi]
        refine ⟨⟨by omega, by trivial⟩, ?_⟩
        simp only [encF, rdI, rdL, slOf, List.getD_cons_zero, List.getD_cons_succ, int_goI, List.length_map]
        have h9 := loop69_9 (P.map encF) (x.args.map encI) x.op x.d x.a x.b x.n x.m ((U.fun_ P i).kinds.map encI) ((U.fun_ P i).base.map encI) ((U.fun_ P i).blocks.map encB) (U.fun_ P i).params (U.fun_ P i).result (by rw [List.length_map]; omega) (U.vars x) (by
          unfold U.vars
          rw [List.length_append]
          have : (if U.has x.op 68 = true then [x.d] else []).length ≤ 1 := by split <;> simp
          omega) (U.vars x).length 0 (by omega)
        have h15 := loop69_15 (P.map encF) (x.args.map encI) x.op x.d x.a x.b x.n x.m ((U.fun_ P i).kinds.map encI) ((U.fun_ P i).base.map encI) ((U.fun_ P i).blocks.map encB) (U.fun_ P i).params (U.fun_ P i).result (by rw [List.length_map]; omega) (U.next x) (by omega) (U.next x).length 0 (by omega)
        rw [List.length_map] at h9 h15
        generalize U.inFrom (U.vars x) 0 (((U.fun_ P i).kinds.length : Int) - 1) 0 = b1 at h9 ⊢
        generalize U.inFrom (U.next x) 1 (((U.fun_ P i).blocks.length : Int) - 1) 0 = b2 at h15 ⊢
        cases hs : U.some x with
        | true =>
          rw [hs] at e57
          have hsc : ((List.map encI (U.uses x)).all fun r => r.all scalarA) = true := by simp [encI, goI, scalarA]
          refine ⟨e57, hsc, ?_⟩
          cases hd : U.has x.op 68 with
          | true =>
            rw [hd] at e82
            have ev : U.vars x = U.uses x ++ [x.d] := by unfold U.vars; rw [hd]; rfl
            rw [ev, List.length_append, List.map_append] at h9
            refine ⟨e82, by trivial, ⟨by trivial, by omega⟩, ?_⟩
            cases b1 with
            | false => exact ⟨h9, rfl⟩
            | true =>
              refine ⟨h9, e46, ?_⟩
              cases b2 with
              | false => exact ⟨h15, rfl⟩
              | true =>
                refine ⟨h15, ?_⟩
                unfold U.okNums
                by_cases c19 : x.op = 19
                · rw [beq_iff_eq.2 c19, if_pos c19]
                  refine ⟨wf67 _ _ _, ?_⟩
                  cases hq : U.within x.n 0 ((P.length : Int) - 1) with
                  | false => exact rfl
                  | true =>
                    obtain ⟨q1, q2⟩ := (within_iff _ _ _).1 hq
                    have hj : x.n.toNat < P.length := by omega
                    rw [rowF hj, getF hj]
                    simp only [encF, rdI, rdL, slOf, List.getD_cons_zero, List.getD_cons_succ, int_goI]
                    exact ⟨⟨by omega, by trivial⟩, rfl⟩
                rw [beq_eq_false_iff_ne.2 c19, if_neg c19]
                by_cases c1 : x.op = 1
                · rw [beq_iff_eq.2 c1, if_pos c1]; exact ⟨wf67 _ _ _, rfl⟩
                rw [beq_eq_false_iff_ne.2 c1, if_neg c1]
                by_cases c16 : x.op = 16
                · rw [beq_iff_eq.2 c16, if_pos c16]; exact ⟨wf67 _ _ _, rfl⟩
                rw [beq_eq_false_iff_ne.2 c16, if_neg c16]
                by_cases c10 : x.op = 10
                · rw [beq_iff_eq.2 c10, if_pos c10]
                  refine ⟨wf67 _ _ _, ?_⟩
                  cases hq : U.within x.n 0 8 with
                  | false => exact rfl
                  | true => exact ⟨wf67 _ _ _, rfl⟩
                rw [beq_eq_false_iff_ne.2 c10, if_neg c10]
                by_cases c11 : x.op = 11
                · rw [beq_iff_eq.2 c11, if_pos c11]; exact ⟨wf67 _ _ _, rfl⟩
                rw [beq_eq_false_iff_ne.2 c11, if_neg c11]
                by_cases c12 : x.op = 12
                · rw [beq_iff_eq.2 c12, if_pos c12]; exact ⟨wf67 _ _ _, rfl⟩
                rw [beq_eq_false_iff_ne.2 c12, if_neg c12]
                by_cases c13 : x.op = 13
                · rw [beq_iff_eq.2 c13, if_pos c13]; exact ⟨wf67 _ _ _, rfl⟩
                rw [beq_eq_false_iff_ne.2 c13, if_neg c13]
                by_cases c14 : x.op = 14
                · rw [beq_iff_eq.2 c14, if_pos c14]; exact ⟨wf67 _ _ _, rfl⟩
                rw [beq_eq_false_iff_ne.2 c14, if_neg c14]
                by_cases c15 : x.op = 15
                · rw [beq_iff_eq.2 c15, if_pos c15]; exact ⟨wf67 _ _ _, rfl⟩
                rw [beq_eq_false_iff_ne.2 c15, if_neg c15]
                exact rfl
          | false =>
            rw [hd] at e82
            have ev : U.vars x = U.uses x := by unfold U.vars; rw [hd]; exact List.append_nil _
            rw [ev] at h9
            refine ⟨e82, ?_⟩
            cases b1 with
            | false => exact ⟨h9, rfl⟩
            | true =>
              refine ⟨h9, e46, ?_⟩
              cases b2 with
              | false => exact ⟨h15, rfl⟩
              | true =>
                refine ⟨h15, ?_⟩
                unfold U.okNums
                by_cases c19 : x.op = 19
                · rw [beq_iff_eq.2 c19, if_pos c19]
                  refine ⟨wf67 _ _ _, ?_⟩
                  cases hq : U.within x.n 0 ((P.length : Int) - 1) with
                  | false => exact rfl
                  | true =>
                    obtain ⟨q1, q2⟩ := (within_iff _ _ _).1 hq
                    have hj : x.n.toNat < P.length := by omega
                    rw [rowF hj, getF hj]
                    simp only [encF, rdI, rdL, slOf, List.getD_cons_zero, List.getD_cons_succ, int_goI]
                    exact ⟨⟨by omega, by trivial⟩, rfl⟩
                rw [beq_eq_false_iff_ne.2 c19, if_neg c19]
                by_cases c1 : x.op = 1
                · rw [beq_iff_eq.2 c1, if_pos c1]; exact ⟨wf67 _ _ _, rfl⟩
                rw [beq_eq_false_iff_ne.2 c1, if_neg c1]
                by_cases c16 : x.op = 16
                · rw [beq_iff_eq.2 c16, if_pos c16]; exact ⟨wf67 _ _ _, rfl⟩
                rw [beq_eq_false_iff_ne.2 c16, if_neg c16]
                by_cases c10 : x.op = 10
                · rw [beq_iff_eq.2 c10, if_pos c10]
                  refine ⟨wf67 _ _ _, ?_⟩
                  cases hq : U.within x.n 0 8 with
                  | false => exact rfl
                  | true => exact ⟨wf67 _ _ _, rfl⟩
                rw [beq_eq_false_iff_ne.2 c10, if_neg c10]
                by_cases c11 : x.op = 11
                · rw [beq_iff_eq.2 c11, if_pos c11]; exact ⟨wf67 _ _ _, rfl⟩
                rw [beq_eq_false_iff_ne.2 c11, if_neg c11]
                by_cases c12 : x.op = 12
                · rw [beq_iff_eq.2 c12, if_pos c12]; exact ⟨wf67 _ _ _, rfl⟩
                rw [beq_eq_false_iff_ne.2 c12, if_neg c12]
                by_cases c13 : x.op = 13
                · rw [beq_iff_eq.2 c13, if_pos c13]; exact ⟨wf67 _ _ _, rfl⟩
                rw [beq_eq_false_iff_ne.2 c13, if_neg c13]
                by_cases c14 : x.op = 14
                · rw [beq_iff_eq.2 c14, if_pos c14]; exact ⟨wf67 _ _ _, rfl⟩
                rw [beq_eq_false_iff_ne.2 c14, if_neg c14]
                by_cases c15 : x.op = 15
                · rw [beq_iff_eq.2 c15, if_pos c15]; exact ⟨wf67 _ _ _, rfl⟩
                rw [beq_eq_false_iff_ne.2 c15, if_neg c15]
                exact rfl
        | false =>
          rw [hs] at e57
          have eu := uses_none hs
          refine ⟨e57, ?_⟩
          cases hd : U.has x.op 68 with
          | true =>
            rw [hd] at e82
            have ev : U.vars x = [x.d] := by unfold U.vars; rw [hd, eu]; rfl
            rw [ev] at h9
            refine ⟨e82, by trivial, by decide, ?_⟩
            cases b1 with
            | false => exact ⟨h9, rfl⟩
            | true =>
              refine ⟨h9, e46, ?_⟩
              cases b2 with
              | false => exact ⟨h15, rfl⟩
              | true =>
                refine ⟨h15, ?_⟩
                unfold U.okNums
                by_cases c19 : x.op = 19
                · rw [beq_iff_eq.2 c19, if_pos c19]
                  refine ⟨wf67 _ _ _, ?_⟩
                  cases hq : U.within x.n 0 ((P.length : Int) - 1) with
                  | false => exact rfl
                  | true =>
                    obtain ⟨q1, q2⟩ := (within_iff _ _ _).1 hq
                    have hj : x.n.toNat < P.length := by omega
                    rw [rowF hj, getF hj]
                    simp only [encF, rdI, rdL, slOf, List.getD_cons_zero, List.getD_cons_succ, int_goI]
                    exact ⟨⟨by omega, by trivial⟩, rfl⟩
                rw [beq_eq_false_iff_ne.2 c19, if_neg c19]
                by_cases c1 : x.op = 1
                · rw [beq_iff_eq.2 c1, if_pos c1]; exact ⟨wf67 _ _ _, rfl⟩
                rw [beq_eq_false_iff_ne.2 c1, if_neg c1]
                by_cases c16 : x.op = 16
                · rw [beq_iff_eq.2 c16, if_pos c16]; exact ⟨wf67 _ _ _, rfl⟩
                rw [beq_eq_false_iff_ne.2 c16, if_neg c16]
                by_cases c10 : x.op = 10
                · rw [beq_iff_eq.2 c10, if_pos c10]
                  refine ⟨wf67 _ _ _, ?_⟩
                  cases hq : U.within x.n 0 8 with
                  | false => exact rfl
                  | true => exact ⟨wf67 _ _ _, rfl⟩
                rw [beq_eq_false_iff_ne.2 c10, if_neg c10]
                by_cases c11 : x.op = 11
                · rw [beq_iff_eq.2 c11, if_pos c11]; exact ⟨wf67 _ _ _, rfl⟩
                rw [beq_eq_false_iff_ne.2 c11, if_neg c11]
                by_cases c12 : x.op = 12
                · rw [beq_iff_eq.2 c12, if_pos c12]; exact ⟨wf67 _ _ _, rfl⟩
                rw [beq_eq_false_iff_ne.2 c12, if_neg c12]
                by_cases c13 : x.op = 13
                · rw [beq_iff_eq.2 c13, if_pos c13]; exact ⟨wf67 _ _ _, rfl⟩
                rw [beq_eq_false_iff_ne.2 c13, if_neg c13]
                by_cases c14 : x.op = 14
                · rw [beq_iff_eq.2 c14, if_pos c14]; exact ⟨wf67 _ _ _, rfl⟩
                rw [beq_eq_false_iff_ne.2 c14, if_neg c14]
                by_cases c15 : x.op = 15
                · rw [beq_iff_eq.2 c15, if_pos c15]; exact ⟨wf67 _ _ _, rfl⟩
                rw [beq_eq_false_iff_ne.2 c15, if_neg c15]
                exact rfl
          | false =>
            rw [hd] at e82
            have ev : U.vars x = [] := by unfold U.vars; rw [hd, eu]; rfl
            rw [ev] at h9
            refine ⟨e82, ?_⟩
            cases b1 with
            | false => exact ⟨h9, rfl⟩
            | true =>
              refine ⟨h9, e46, ?_⟩
              cases b2 with
              | false => exact ⟨h15, rfl⟩
              | true =>
                refine ⟨h15, ?_⟩
                unfold U.okNums
                by_cases c19 : x.op = 19
                · rw [beq_iff_eq.2 c19, if_pos c19]
                  refine ⟨wf67 _ _ _, ?_⟩
                  cases hq : U.within x.n 0 ((P.length : Int) - 1) with
                  | false => exact rfl
                  | true =>
                    obtain ⟨q1, q2⟩ := (within_iff _ _ _).1 hq
                    have hj : x.n.toNat < P.length := by omega
                    rw [rowF hj, getF hj]
                    simp only [encF, rdI, rdL, slOf, List.getD_cons_zero, List.getD_cons_succ, int_goI]
                    exact ⟨⟨by omega, by trivial⟩, rfl⟩
                rw [beq_eq_false_iff_ne.2 c19, if_neg c19]
                by_cases c1 : x.op = 1
                · rw [beq_iff_eq.2 c1, if_pos c1]; exact ⟨wf67 _ _ _, rfl⟩
                rw [beq_eq_false_iff_ne.2 c1, if_neg c1]
                by_cases c16 : x.op = 16
                · rw [beq_iff_eq.2 c16, if_pos c16]; exact ⟨wf67 _ _ _, rfl⟩
                rw [beq_eq_false_iff_ne.2 c16, if_neg c16]
                by_cases c10 : x.op = 10
                · rw [beq_iff_eq.2 c10, if_pos c10]
                  refine ⟨wf67 _ _ _, ?_⟩
                  cases hq : U.within x.n 0 8 with
                  | false => exact rfl
                  | true => exact ⟨wf67 _ _ _, rfl⟩
                rw [beq_eq_false_iff_ne.2 c10, if_neg c10]
                by_cases c11 : x.op = 11
                · rw [beq_iff_eq.2 c11, if_pos c11]; exact ⟨wf67 _ _ _, rfl⟩
                rw [beq_eq_false_iff_ne.2 c11, if_neg c11]
                by_cases c12 : x.op = 12
                · rw [beq_iff_eq.2 c12, if_pos c12]; exact ⟨wf67 _ _ _, rfl⟩
                rw [beq_eq_false_iff_ne.2 c12, if_neg c12]
                by_cases c13 : x.op = 13
                · rw [beq_iff_eq.2 c13, if_pos c13]; exact ⟨wf67 _ _ _, rfl⟩
                rw [beq_eq_false_iff_ne.2 c13, if_neg c13]
                by_cases c14 : x.op = 14
                · rw [beq_iff_eq.2 c14, if_pos c14]; exact ⟨wf67 _ _ _, rfl⟩
                rw [beq_eq_false_iff_ne.2 c14, if_neg c14]
                by_cases c15 : x.op = 15
                · rw [beq_iff_eq.2 c15, if_pos c15]; exact ⟨wf67 _ _ _, rfl⟩
                rw [beq_eq_false_iff_ne.2 c15, if_neg c15]
                exact rfl
end Go.Proofs.YtabdcfcnngnnoaaDoor.E
