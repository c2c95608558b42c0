/- Functions, by what the evaluator asks; the theorems t.. were printed by show.txt, a program of this session. -/
import Derived.Test.YtabdcfcnngnnoaaDoor05g
set_option linter.unusedVariables false
set_option linter.unusedSectionVars false
set_option linter.unusedSimpArgs false
set_option maxRecDepth 100000
namespace Go.Proofs.YtabdcfcnngnnoaaDoor.E
open Go
def F45 (c : Bool) (m : Int) : CallT := fun f args sto => match f, args, sto with
 | 52, [.sl []], [] => .is (.tup [], [], [])
 | 52, [.os 0 0 1], [.arr 1 [[.v (.int _ a)]]] => .is (.tup [], [.arr 1 [[goI a]]], [])
 | 52, [.os 0 0 2], [.arr 1 [[.v (.int _ a)], [.v (.int _ b)]]] => .is (.tup [], [.arr 1 [[goI (if a ≤ b then a else b)], [goI (if a ≤ b then b else a)]]], [])
 | 53, [.sl []], [] => .is (.sl [], [], [])
 | 53, [.os 0 0 1], [.arr 1 [[.v (.int _ a)]]] => .is (.os 0 0 1, [.arr 1 [[goI a]]], [])
 | 53, [.os 0 0 2], [.arr 1 [[.v (.int _ a)], [.v (.int _ b)]]] => .by (b == a) (.is (.os 0 0 1, [.arr 1 [[goI a], [goI 0]]], [])) (.is (.os 0 0 2, [.arr 1 [[goI a], [goI b]]], []))
 | _, _, _ => .no
def L71 (a b : Int) : Nat → St → LT := fun id st => .by (b == a) (.is .ret (mkS 61 [(2, .os 0 0 1)] [.arr 1 [[goI a], [goI 0]]])) (.is (.exit 0) (mkS 61 [(0, .os 0 0 2)] [.arr 1 [[goI a], [goI b]]]))
def L719 (a b : Int) : Nat → St → LT := fun id st => match id with
 | 4 => .is (.exit 0) (mkS 61 [(0, .os 0 0 2)] [.arr 1 [[goI a], [goI b]]])
 | _ => .is (.exit 2) (mkS 61 [(0, .os 0 0 2), (3, goI 1)] [.arr 1 [[goI a], [goI b]]])
def F15 (b : Bool) (k : Nat) (rows : List (List AV)) : CallT := fun f args sto => match f, args with
 | 100, _ => .by b (.is (.os 0 0 k, [.arr 1 rows], [])) (.is (.sl [], [], []))
 | _, _ => .no
def F16 (l : List (List AV)) : CallT := fun f args sto => match f, args with
 | 77, _ => .is (.sl l, [], [])
 | _, _ => .no
def L72 (v : Int) (b : Bool) : Nat → St → LT := fun id st => .by b (.is .ret (mkS 19 [(4, goI v)])) (.is (.exit 0) (mkS 19 []))
def F47 (v : Int) : CallT := fun f args sto => match f, args with
 | 99, _ => .is (goI v, [], [])
 | _, _ => .no
def L48 (b : Bool) : Nat → St → LT := fun id st => .by b (.is .ret (mkS 18 [(4, goB true)])) (.is (.exit 0) (mkS 18 []))
def L14 (b : Bool) : Nat → St → LT := fun id st => .by b (.is (.exit 0) (mkS 26 [])) (.is .ret (mkS 26 [(4, goB false)]))

theorem t45 (op : Int) (d : Int) (a : Int) (b : Int) (n : Int) (m : Int) (l : List Int) (r : AV × List Row × List Nat) : (runT Tryd.prog H (F45 false 0) L0 false 100 [AV.agg [goI op, goI d, goI a, goI b, goI n, goI m, AV.sl (List.map encI l)]]
 [] fun q => q = r) = (TB (op == 22)
 (Wf Tryd.prog H 52 [AV.os 0 0 2] [Row.arr 1 [[goI n], [goI m]]] =
 some (AV.tup [], [Row.arr 1 [[goI (if n ≤ m then n else m)], [goI (if n ≤ m then m else n)]]], []) ∧
 TB ((if n ≤ m then m else n) == if n ≤ m then n else m)
 (Wf Tryd.prog H 53 [AV.os 0 0 2] [Row.arr 1 [[goI (if n ≤ m then n else m)], [goI (if n ≤ m then m else n)]]] =
 some (AV.os 0 0 1, [Row.arr 1 [[goI (if n ≤ m then n else m)], [goI 0]]], []) ∧
 (AV.os 0 0 1, [Row.arr 1 [[goI (if n ≤ m then n else m)], [goI 0]]], []) = r)
 (Wf Tryd.prog H 53 [AV.os 0 0 2] [Row.arr 1 [[goI (if n ≤ m then n else m)], [goI (if n ≤ m then m else n)]]] =
 some (AV.os 0 0 2, [Row.arr 1 [[goI (if n ≤ m then n else m)], [goI (if n ≤ m then m else n)]]], []) ∧
 (AV.os 0 0 2, [Row.arr 1 [[goI (if n ≤ m then n else m)], [goI (if n ≤ m then m else n)]]], []) = r))
 (TB (op == 21)
 (Wf Tryd.prog H 52 [AV.os 0 0 1] [Row.arr 1 [[goI n]]] = some (AV.tup [], [Row.arr 1 [[goI n]]], []) ∧
 Wf Tryd.prog H 53 [AV.os 0 0 1] [Row.arr 1 [[goI n]]] = some (AV.os 0 0 1, [Row.arr 1 [[goI n]]], []) ∧
 (AV.os 0 0 1, [Row.arr 1 [[goI n]]], []) = r)
 (Wf Tryd.prog H 52 [AV.sl []] [] = some (AV.tup [], [], []) ∧
 Wf Tryd.prog H 53 [AV.sl []] [] = some (AV.sl [], [], []) ∧ (AV.sl [], [], []) = r))) := by kernel_rfl
theorem t71 (r : AV × List Row × List Nat) : (runT Tryd.prog H (fun f args sto => CT.of (F0 f args sto)) L0 false 53 [AV.sl []] [] fun q => q = r) = ((AV.sl [], [], []) = r) := by kernel_rfl
theorem t71a (a : Int) (r : AV × List Row × List Nat) : (runT Tryd.prog H (fun f args sto => CT.of (F0 f args sto)) L0 false 53 [AV.os 0 0 1] [Row.arr 1 [[goI a]]] fun q => q = r) = ((AV.os 0 0 1, [Row.arr 1 [[goI a]]], []) = r) := by kernel_rfl
theorem t71b (a : Int) (b : Int) (r : AV × List Row × List Nat) : (runT Tryd.prog H (fun f args sto => CT.of (F0 f args sto)) (L71 a b) false 53 [AV.os 0 0 2]
 [Row.arr 1 [[goI a], [goI b]]] fun q => q = r) = (TB (b == a)
 (LoopTo Tryd.prog H (H 53) 1 (loopOf Tryd.prog 53 4) (mkS 61 [(0, AV.os 0 0 2), (3, goI 1)] [Row.arr 1 [[goI a], [goI b]]])
 (Ex.ret, mkS 61 [(2, AV.os 0 0 1)] [Row.arr 1 [[goI a], [goI 0]]]) ∧
 (AV.os 0 0 1, [Row.arr 1 [[goI a], [goI 0]]], []) = r)
 (LoopTo Tryd.prog H (H 53) 1 (loopOf Tryd.prog 53 4) (mkS 61 [(0, AV.os 0 0 2), (3, goI 1)] [Row.arr 1 [[goI a], [goI b]]])
 (Ex.exit 0, mkS 61 [(0, AV.os 0 0 2)] [Row.arr 1 [[goI a], [goI b]]]) ∧
 (AV.os 0 0 2, [Row.arr 1 [[goI a], [goI b]]], []) = r)) := by kernel_rfl
theorem t71_4 (a : Int) (b : Int) (r : Ex × St) : (turnT Tryd.prog H (fun f args sto => CT.of (F0 f args sto)) (L719 a b) false (H 53) 1 (loopOf Tryd.prog 53 4)
 (mkS 61 [(0, AV.os 0 0 2), (3, goI 1)] [Row.arr 1 [[goI a], [goI b]]]) r) = ((iz 0 ≤ 1 ∧ 1 < (↑2 : Int) ∧ 1 < 2) ∧
 some [goI b] = some [goI (rdI [goI b] 0)] ∧
 (0 ≤ IntKind.wrap IntKind.i64 (1 - 1) ∧ IntKind.wrap IntKind.i64 (1 - 1) < (↑2 : Int) ∧ 0 < 2) ∧
 some [goI a] = some [goI (rdI [goI a] 0)] ∧
 TB (rdI [goI b] 0 == rdI [goI a] 0)
 ((iz 0 ≤ 1 ∧ 1 ≤ (↑2 : Int)) ∧
 LoopTo Tryd.prog H (H 53) 1 (loopOf Tryd.prog 53 9)
 (mkS 61 [(0, AV.os 0 0 2), (3, goI 1), (4, AV.os 0 1 1), (5, goI 1)] [Row.arr 1 [[goI a], [goI b]]])
 (Ex.exit 2, mkS 61 [(0, AV.os 0 0 2), (3, goI 1)] [Row.arr 1 [[goI a], [goI b]]]) ∧
 (iz 0 ≤ 1 ∧ 1 ≤ (↑2 : Int)) ∧
 (iz 0 ≤ 1 ∧ 1 ≤ (↑2 : Int)) ∧ (Ex.ret, mkS 61 [(2, AV.os 0 0 1)] [Row.arr 1 [[goI a], [goI 0]]]) = r)
 (LoopTo Tryd.prog H (H 53) 1 (loopOf Tryd.prog 53 4)
 (mkS 61 [(0, AV.os 0 0 2), (3, goI (IntKind.wrap IntKind.i64 (1 + 1)))] [Row.arr 1 [[goI a], [goI b]]]) r)) := by kernel_rfl
theorem t71_4e (a : Int) (b : Int) (r : Ex × St) : (turnT Tryd.prog H (fun f args sto => CT.of (F0 f args sto)) L0 false (H 53) 1 (loopOf Tryd.prog 53 4)
 (mkS 61 [(0, AV.os 0 0 2), (3, goI 2)] [Row.arr 1 [[goI a], [goI b]]]) r) = ((Ex.exit 0, mkS 61 [(0, AV.os 0 0 2)] [Row.arr 1 [[goI a], [goI b]]]) = r) := by kernel_rfl
theorem t71_9 (a : Int) (b : Int) (r : Ex × St) : (turnT Tryd.prog H (fun f args sto => CT.of (F0 f args sto)) L0 false (H 53) 1 (loopOf Tryd.prog 53 9)
 (mkS 61 [(0, AV.os 0 0 2), (3, goI 1), (4, AV.os 0 1 1), (5, goI 1)] [Row.arr 1 [[goI a], [goI b]]]) r) = ((Ex.exit 2, mkS 61 [(0, AV.os 0 0 2), (3, goI 1)] [Row.arr 1 [[goI a], [goI b]]]) = r) := by kernel_rfl
theorem t15 (ks : List (List AV)) (bs : List (List AV)) (p : Int) (q : Int) (bl : List XB) (n : Int) (b : Bool) (k : Nat) (rows : List (List AV)) (r : AV × List Row × List Nat) : (runT Tryd.prog H (F15 b k rows) L0 false 76 [AV.agg [AV.sl ks, AV.sl bs, goI p, goI q, AV.sl (List.map encB bl)], goI n]
 [] fun q => q = r) = (TB (decide (n < 0)) ((AV.sl [], [], []) = r)
 (TB (decide (n ≥ (↑(List.length (List.map encB bl)) : Int))) ((AV.sl [], [], []) = r)
 ((0 ≤ n ∧ (List.map encB bl)[Int.toNat n]? = some [AV.sl (rdL (rowAt (List.map encB bl) (Int.toNat n)) 0)]) ∧
 TB ((↑(List.length (rdL (rowAt (List.map encB bl) (Int.toNat n)) 0)) : Int) == 0) ((AV.sl [], [], []) = r)
 ((0 ≤ IntKind.wrap IntKind.i64 ((↑(List.length (rdL (rowAt (List.map encB bl) (Int.toNat n)) 0)) : Int) - 1) ∧
 (rdL (rowAt (List.map encB bl) (Int.toNat n))
 0)[Int.toNat
 (IntKind.wrap IntKind.i64
 ((↑(List.length (rdL (rowAt (List.map encB bl) (Int.toNat n)) 0)) : Int) - 1))]? =
 some
 [goI
 (rdI
 (rowAt (rdL (rowAt (List.map encB bl) (Int.toNat n)) 0)
 (Int.toNat
 (IntKind.wrap IntKind.i64
 ((↑(List.length (rdL (rowAt (List.map encB bl) (Int.toNat n)) 0)) : Int) - 1))))
 0),
 goI
 (rdI
 (rowAt (rdL (rowAt (List.map encB bl) (Int.toNat n)) 0)
 (Int.toNat
 (IntKind.wrap IntKind.i64
 ((↑(List.length (rdL (rowAt (List.map encB bl) (Int.toNat n)) 0)) : Int) - 1))))
 1),
 goI
 (rdI
 (rowAt (rdL (rowAt (List.map encB bl) (Int.toNat n)) 0)
 (Int.toNat
 (IntKind.wrap IntKind.i64
 ((↑(List.length (rdL (rowAt (List.map encB bl) (Int.toNat n)) 0)) : Int) - 1))))
 2),
 goI
 (rdI
 (rowAt (rdL (rowAt (List.map encB bl) (Int.toNat n)) 0)
 (Int.toNat
 (IntKind.wrap IntKind.i64
 ((↑(List.length (rdL (rowAt (List.map encB bl) (Int.toNat n)) 0)) : Int) - 1))))
 3),
 goI
 (rdI
 (rowAt (rdL (rowAt (List.map encB bl) (Int.toNat n)) 0)
 (Int.toNat
 (IntKind.wrap IntKind.i64
 ((↑(List.length (rdL (rowAt (List.map encB bl) (Int.toNat n)) 0)) : Int) - 1))))
 4),
 goI
 (rdI
 (rowAt (rdL (rowAt (List.map encB bl) (Int.toNat n)) 0)
 (Int.toNat
 (IntKind.wrap IntKind.i64
 ((↑(List.length (rdL (rowAt (List.map encB bl) (Int.toNat n)) 0)) : Int) - 1))))
 5),
 AV.sl
 (rdL
 (rowAt (rdL (rowAt (List.map encB bl) (Int.toNat n)) 0)
 (Int.toNat
 (IntKind.wrap IntKind.i64
 ((↑(List.length (rdL (rowAt (List.map encB bl) (Int.toNat n)) 0)) : Int) - 1))))
 6)]) ∧
 TB b
 (Wf Tryd.prog H 100
 [AV.agg
 [goI
 (rdI
 (rowAt (rdL (rowAt (List.map encB bl) (Int.toNat n)) 0)
 (Int.toNat
 (IntKind.wrap IntKind.i64
 ((↑(List.length (rdL (rowAt (List.map encB bl) (Int.toNat n)) 0)) : Int) - 1))))
 0),
 goI
 (rdI
 (rowAt (rdL (rowAt (List.map encB bl) (Int.toNat n)) 0)
 (Int.toNat
 (IntKind.wrap IntKind.i64
 ((↑(List.length (rdL (rowAt (List.map encB bl) (Int.toNat n)) 0)) : Int) - 1))))
 1),
 goI
 (rdI
 (rowAt (rdL (rowAt (List.map encB bl) (Int.toNat n)) 0)
 (Int.toNat
 (IntKind.wrap IntKind.i64
 ((↑(List.length (rdL (rowAt (List.map encB bl) (Int.toNat n)) 0)) : Int) - 1))))
 2),
 goI
 (rdI
 (rowAt (rdL (rowAt (List.map encB bl) (Int.toNat n)) 0)
 (Int.toNat
 (IntKind.wrap IntKind.i64
 ((↑(List.length (rdL (rowAt (List.map encB bl) (Int.toNat n)) 0)) : Int) - 1))))
 3),
 goI
 (rdI
 (rowAt (rdL (rowAt (List.map encB bl) (Int.toNat n)) 0)
 (Int.toNat
 (IntKind.wrap IntKind.i64
 ((↑(List.length (rdL (rowAt (List.map encB bl) (Int.toNat n)) 0)) : Int) - 1))))
 4),
 goI
 (rdI
 (rowAt (rdL (rowAt (List.map encB bl) (Int.toNat n)) 0)
 (Int.toNat
 (IntKind.wrap IntKind.i64
 ((↑(List.length (rdL (rowAt (List.map encB bl) (Int.toNat n)) 0)) : Int) - 1))))
 5),
 AV.sl
 (rdL
 (rowAt (rdL (rowAt (List.map encB bl) (Int.toNat n)) 0)
 (Int.toNat
 (IntKind.wrap IntKind.i64
 ((↑(List.length (rdL (rowAt (List.map encB bl) (Int.toNat n)) 0)) : Int) - 1))))
 6)]]
 [] =
 some (AV.os 0 0 k, [Row.arr 1 rows], []) ∧
 (AV.sl (List.take k (List.drop 0 rows)), [], []) = r)
 (Wf Tryd.prog H 100
 [AV.agg
 [goI
 (rdI
 (rowAt (rdL (rowAt (List.map encB bl) (Int.toNat n)) 0)
 (Int.toNat
 (IntKind.wrap IntKind.i64
 ((↑(List.length (rdL (rowAt (List.map encB bl) (Int.toNat n)) 0)) : Int) - 1))))
 0),
 goI
 (rdI
 (rowAt (rdL (rowAt (List.map encB bl) (Int.toNat n)) 0)
 (Int.toNat
 (IntKind.wrap IntKind.i64
 ((↑(List.length (rdL (rowAt (List.map encB bl) (Int.toNat n)) 0)) : Int) - 1))))
 1),
 goI
 (rdI
 (rowAt (rdL (rowAt (List.map encB bl) (Int.toNat n)) 0)
 (Int.toNat
 (IntKind.wrap IntKind.i64
 ((↑(List.length (rdL (rowAt (List.map encB bl) (Int.toNat n)) 0)) : Int) - 1))))
 2),
 goI
 (rdI
 (rowAt (rdL (rowAt (List.map encB bl) (Int.toNat n)) 0)
 (Int.toNat
 (IntKind.wrap IntKind.i64
 ((↑(List.length (rdL (rowAt (List.map encB bl) (Int.toNat n)) 0)) : Int) - 1))))
 3),
 goI
 (rdI
 (rowAt (rdL (rowAt (List.map encB bl) (Int.toNat n)) 0)
 (Int.toNat
 (IntKind.wrap IntKind.i64
 ((↑(List.length (rdL (rowAt (List.map encB bl) (Int.toNat n)) 0)) : Int) - 1))))
 4),
 goI
 (rdI
 (rowAt (rdL (rowAt (List.map encB bl) (Int.toNat n)) 0)
 (Int.toNat
 (IntKind.wrap IntKind.i64
 ((↑(List.length (rdL (rowAt (List.map encB bl) (Int.toNat n)) 0)) : Int) - 1))))
 5),
 AV.sl
 (rdL
 (rowAt (rdL (rowAt (List.map encB bl) (Int.toNat n)) 0)
 (Int.toNat
 (IntKind.wrap IntKind.i64
 ((↑(List.length (rdL (rowAt (List.map encB bl) (Int.toNat n)) 0)) : Int) - 1))))
 6)]]
 [] =
 some (AV.sl [], [], []) ∧
 (AV.sl [], [], []) = r))))) := by kernel_rfl
theorem t16 (ks : List (List AV)) (bs : List (List AV)) (p : Int) (q : Int) (bl : List XB) (n : Int) (l : List (List AV)) (r : AV × List Row × List Nat) : (runT Tryd.prog H (F16 l) L0 false 58 [AV.agg [AV.sl ks, AV.sl bs, goI p, goI q, AV.sl (List.map encB bl)], goI n] []
 fun q => q = r) = (TB (decide (n < 0)) ((AV.sl [], [], []) = r)
 (TB (decide (n ≥ (↑(List.length (List.map encB bl)) : Int))) ((AV.sl [], [], []) = r)
 ((0 ≤ n ∧ (List.map encB bl)[Int.toNat n]? = some [AV.sl (rdL (rowAt (List.map encB bl) (Int.toNat n)) 0)]) ∧
 TB ((↑(List.length (rdL (rowAt (List.map encB bl) (Int.toNat n)) 0)) : Int) == 0) ((AV.sl [], [], []) = r)
 ((0 ≤ n ∧ (List.map encB bl)[Int.toNat n]? = some [AV.sl (rdL (rowAt (List.map encB bl) (Int.toNat n)) 0)]) ∧
 (0 ≤ IntKind.wrap IntKind.i64 ((↑(List.length (rdL (rowAt (List.map encB bl) (Int.toNat n)) 0)) : Int) - 1) ∧
 (rdL (rowAt (List.map encB bl) (Int.toNat n))
 0)[Int.toNat
 (IntKind.wrap IntKind.i64
 ((↑(List.length (rdL (rowAt (List.map encB bl) (Int.toNat n)) 0)) : Int) - 1))]? =
 some
 [goI
 (rdI
 (rowAt (rdL (rowAt (List.map encB bl) (Int.toNat n)) 0)
 (Int.toNat
 (IntKind.wrap IntKind.i64
 ((↑(List.length (rdL (rowAt (List.map encB bl) (Int.toNat n)) 0)) : Int) - 1))))
 0),
 goI
 (rdI
 (rowAt (rdL (rowAt (List.map encB bl) (Int.toNat n)) 0)
 (Int.toNat
 (IntKind.wrap IntKind.i64
 ((↑(List.length (rdL (rowAt (List.map encB bl) (Int.toNat n)) 0)) : Int) - 1))))
 1),
 goI
 (rdI
 (rowAt (rdL (rowAt (List.map encB bl) (Int.toNat n)) 0)
 (Int.toNat
 (IntKind.wrap IntKind.i64
 ((↑(List.length (rdL (rowAt (List.map encB bl) (Int.toNat n)) 0)) : Int) - 1))))
 2),
 goI
 (rdI
 (rowAt (rdL (rowAt (List.map encB bl) (Int.toNat n)) 0)
 (Int.toNat
 (IntKind.wrap IntKind.i64
 ((↑(List.length (rdL (rowAt (List.map encB bl) (Int.toNat n)) 0)) : Int) - 1))))
 3),
 goI
 (rdI
 (rowAt (rdL (rowAt (List.map encB bl) (Int.toNat n)) 0)
 (Int.toNat
 (IntKind.wrap IntKind.i64
 ((↑(List.length (rdL (rowAt (List.map encB bl) (Int.toNat n)) 0)) : Int) - 1))))
 4),
 goI
 (rdI
 (rowAt (rdL (rowAt (List.map encB bl) (Int.toNat n)) 0)
 (Int.toNat
 (IntKind.wrap IntKind.i64
 ((↑(List.length (rdL (rowAt (List.map encB bl) (Int.toNat n)) 0)) : Int) - 1))))
 5),
 AV.sl
 (rdL
 (rowAt (rdL (rowAt (List.map encB bl) (Int.toNat n)) 0)
 (Int.toNat
 (IntKind.wrap IntKind.i64
 ((↑(List.length (rdL (rowAt (List.map encB bl) (Int.toNat n)) 0)) : Int) - 1))))
 6)]) ∧
 Wf Tryd.prog H 77
 [AV.agg
 [goI
 (rdI
 (rowAt (rdL (rowAt (List.map encB bl) (Int.toNat n)) 0)
 (Int.toNat
 (IntKind.wrap IntKind.i64
 ((↑(List.length (rdL (rowAt (List.map encB bl) (Int.toNat n)) 0)) : Int) - 1))))
 0),
 goI
 (rdI
 (rowAt (rdL (rowAt (List.map encB bl) (Int.toNat n)) 0)
 (Int.toNat
 (IntKind.wrap IntKind.i64
 ((↑(List.length (rdL (rowAt (List.map encB bl) (Int.toNat n)) 0)) : Int) - 1))))
 1),
 goI
 (rdI
 (rowAt (rdL (rowAt (List.map encB bl) (Int.toNat n)) 0)
 (Int.toNat
 (IntKind.wrap IntKind.i64
 ((↑(List.length (rdL (rowAt (List.map encB bl) (Int.toNat n)) 0)) : Int) - 1))))
 2),
 goI
 (rdI
 (rowAt (rdL (rowAt (List.map encB bl) (Int.toNat n)) 0)
 (Int.toNat
 (IntKind.wrap IntKind.i64
 ((↑(List.length (rdL (rowAt (List.map encB bl) (Int.toNat n)) 0)) : Int) - 1))))
 3),
 goI
 (rdI
 (rowAt (rdL (rowAt (List.map encB bl) (Int.toNat n)) 0)
 (Int.toNat
 (IntKind.wrap IntKind.i64
 ((↑(List.length (rdL (rowAt (List.map encB bl) (Int.toNat n)) 0)) : Int) - 1))))
 4),
 goI
 (rdI
 (rowAt (rdL (rowAt (List.map encB bl) (Int.toNat n)) 0)
 (Int.toNat
 (IntKind.wrap IntKind.i64
 ((↑(List.length (rdL (rowAt (List.map encB bl) (Int.toNat n)) 0)) : Int) - 1))))
 5),
 AV.sl
 (rdL
 (rowAt (rdL (rowAt (List.map encB bl) (Int.toNat n)) 0)
 (Int.toNat
 (IntKind.wrap IntKind.i64
 ((↑(List.length (rdL (rowAt (List.map encB bl) (Int.toNat n)) 0)) : Int) - 1))))
 6)]]
 [] =
 some (AV.sl l, [], []) ∧
 (AV.sl l, [], []) = r)))) := by kernel_rfl
theorem t72 (l : List Int) (n : Int) (v : Int) (b : Bool) (r : AV × List Row × List Nat) : (runT Tryd.prog H (fun f args sto => CT.of (F0 f args sto)) (L72 v b) false 99 [AV.sl (List.map encI l), goI n] []
 fun q => q = r) = (TB b
 (LoopTo Tryd.prog H (H 99) 0 (loopOf Tryd.prog 99 2)
 (mkS 19 [(0, AV.sl (List.map encI l)), (1, goI n), (7, goI (↑(List.length (List.map encI l)) : Int)), (8, goI 0)])
 (Ex.ret, mkS 19 [(4, goI v)]) ∧
 (goI v, [], []) = r)
 (LoopTo Tryd.prog H (H 99) 0 (loopOf Tryd.prog 99 2)
 (mkS 19 [(0, AV.sl (List.map encI l)), (1, goI n), (7, goI (↑(List.length (List.map encI l)) : Int)), (8, goI 0)])
 (Ex.exit 0, mkS 19 []) ∧
 (goI (-1), [], []) = r)) := by kernel_rfl
theorem t72_2 (l : List Int) (n : Int) (k : Int) (i : Nat) (r : Ex × St) : (turnT Tryd.prog H (fun f args sto => CT.of (F0 f args sto)) L0 false (H 99) 0 (loopOf Tryd.prog 99 2)
 (mkS 19 [(0, AV.sl (List.map encI l)), (1, goI n), (7, goI k), (8, goI (↑i : Int))]) r) = (TB (decide ((↑i : Int) < k))
 ((0 ≤ (↑i : Int) ∧ (List.map encI l)[i]? = some [goI (rdI (rowAt (List.map encI l) i) 0)]) ∧
 TB (n == rdI (rowAt (List.map encI l) i) 0) ((Ex.ret, mkS 19 [(4, goI (↑i : Int))]) = r)
 (LoopTo Tryd.prog H (H 99) 0 (loopOf Tryd.prog 99 2)
 (mkS 19
 [(0, AV.sl (List.map encI l)), (1, goI n), (7, goI k), (8, goI (IntKind.wrap IntKind.i64 ((↑i : Int) + 1)))])
 r))
 ((Ex.exit 0, mkS 19 []) = r)) := by kernel_rfl
theorem t47 (l : List Int) (n : Int) (v : Int) (r : AV × List Row × List Nat) : (runT Tryd.prog H (F47 v) L0 false 75 [AV.sl (List.map encI l), goI n] [] fun q => q = r) = (Wf Tryd.prog H 99 [AV.sl (List.map encI l), goI n] [] = some (goI v, [], []) ∧ (goB (decide (v ≥ 0)), [], []) = r) := by kernel_rfl
theorem t14 (a : List Int) (b : List Int) (s : Bool) (r : AV × List Row × List Nat) : (runT Tryd.prog H (fun f args sto => CT.of (F0 f args sto)) (L14 s) false 13
 [AV.sl (List.map encI a), AV.sl (List.map encI b)] [] fun q => q = r) = (TB (!(↑(List.length (List.map encI a)) : Int) == (↑(List.length (List.map encI b)) : Int)) ((goB false, [], []) = r)
 (TB s
 (LoopTo Tryd.prog H (H 13) 0 (loopOf Tryd.prog 13 4)
 (mkS 26 [(0, AV.sl (List.map encI a)), (1, AV.sl (List.map encI b)), (5, goI 0)]) (Ex.exit 0, mkS 26 []) ∧
 (goB true, [], []) = r)
 (LoopTo Tryd.prog H (H 13) 0 (loopOf Tryd.prog 13 4)
 (mkS 26 [(0, AV.sl (List.map encI a)), (1, AV.sl (List.map encI b)), (5, goI 0)])
 (Ex.ret, mkS 26 [(4, goB false)]) ∧
 (goB false, [], []) = r))) := by kernel_rfl
theorem t14_4 (a : List Int) (b : List Int) (i : Nat) (r : Ex × St) : (turnT Tryd.prog H (fun f args sto => CT.of (F0 f args sto)) L0 false (H 13) 0 (loopOf Tryd.prog 13 4)
 (mkS 26 [(0, AV.sl (List.map encI a)), (1, AV.sl (List.map encI b)), (5, goI (↑i : Int))]) r) = (TB (decide ((↑i : Int) < (↑(List.length (List.map encI a)) : Int)))
 ((0 ≤ (↑i : Int) ∧ (List.map encI a)[i]? = some [goI (rdI (rowAt (List.map encI a) i) 0)]) ∧
 (0 ≤ (↑i : Int) ∧ (List.map encI b)[i]? = some [goI (rdI (rowAt (List.map encI b) i) 0)]) ∧
 TB (!rdI (rowAt (List.map encI a) i) 0 == rdI (rowAt (List.map encI b) i) 0)
 ((Ex.ret, mkS 26 [(4, goB false)]) = r)
 (LoopTo Tryd.prog H (H 13) 0 (loopOf Tryd.prog 13 4)
 (mkS 26
 [(0, AV.sl (List.map encI a)), (1, AV.sl (List.map encI b)),
 (5, goI (IntKind.wrap IntKind.i64 ((↑i : Int) + 1)))])
 r))
 ((Ex.exit 0, mkS 26 []) = r)) := by kernel_rfl
theorem wf70 (l : List Int) (hl : l.length < 1000000) : Wf Tryd.prog H 52 [.os 0 0 l.length] [.arr 1 (l.map encI)] = some (.tup [], [.arr 1 ((U.isort l).map encI)], []) :=
  Wf_prim (p := sortP) (by rfl) (by
    show (if l.length = (l.map encI).length ∧ (l.map encI).length < 1000000 then (intL (l.map encI)).map fun l => (AV.tup [], [Row.arr 1 ((U.isort l).map encI)], []) else none) = _
    rw [if_pos ⟨(List.length_map _).symm, by rw [List.length_map]; exact hl⟩, intL_map]
    rfl)
theorem wf70_0 : Wf Tryd.prog H 52 [.sl []] [] = some (.tup [], [], []) := Wf_prim (p := sortP) (by rfl) rfl
theorem isort2 (a b : Int) : U.isort [a, b] = [if a ≤ b then a else b, if a ≤ b then b else a] := by
  show (if a ≤ b then [a, b] else [b, a]) = _
  by_cases h : a ≤ b
  · rw [if_pos h, if_pos h, if_pos h]
  · rw [if_neg h, if_neg h, if_neg h]
theorem wf70_2 (a b : Int) : Wf Tryd.prog H 52 [.os 0 0 2] [.arr 1 [[goI a], [goI b]]] = some (.tup [], [.arr 1 [[goI (if a ≤ b then a else b)], [goI (if a ≤ b then b else a)]]], []) := by
  have h := wf70 [a, b] (by simp)
  rw [isort2] at h
  exact h
theorem wf71_2 (a b : Int) : Wf Tryd.prog H 53 [.os 0 0 2] [.arr 1 [[goI a], [goI b]]] = some (if b == a then (.os 0 0 1, [.arr 1 [[goI a], [goI 0]]], []) else (.os 0 0 2, [.arr 1 [[goI a], [goI b]]], [])) := by
  have w0 : IntKind.i64.wrap (1 - 1) = 0 := by decide
  have w1 : IntKind.i64.wrap (1 + 1) = 2 := by decide
  have h4 : LoopTo Tryd.prog H (H 53) 1 (loopOf Tryd.prog 53 4) (mkS 61 [(0, .os 0 0 2), (3, goI 1)] [.arr 1 [[goI a], [goI b]]]) (if b == a then (.ret, mkS 61 [(2, .os 0 0 1)] [.arr 1 [[goI a], [goI 0]]]) else (.exit 0, mkS 61 [(0, .os 0 0 2)] [.arr 1 [[goI a], [goI b]]])) := by
    refine turnK (t71_4 a b _) ?_
    rw [w0, w1]
    simp only [rdI, List.getD_cons_zero, int_goI]
    refine ⟨by decide, by trivial, by decide, by trivial, ?_⟩
    cases h : (b == a) with
    | true => exact ⟨by decide, turnK (t71_9 a b _) rfl, by decide, by decide, rfl⟩
    | false => exact turnK (t71_4e a b _) rfl
  refine runK (t71b a b _) ?_
  cases h : (b == a) with
  | true => rw [h] at h4; exact ⟨h4, rfl⟩
  | false => rw [h] at h4; exact ⟨h4, rfl⟩
/-- shape.Next: in new memory, or none. -/
theorem wf45 (x : XI) : ∃ (b : Bool) (k : Nat) (rows : List (List AV)), (b = true → Wf Tryd.prog H 100 [.agg (encIn x)] [] = some (.os 0 0 k, [.arr 1 rows], []) ∧ rows.take k = (U.next x).map encI) ∧ (b = false → Wf Tryd.prog H 100 [.agg (encIn x)] [] = some (.sl [], [], []) ∧ U.next x = []) := by
  by_cases h2 : x.op = 22
  · have h1 : ¬ x.op = 21 := by omega
    have k1 := wf70_2 x.n x.m
    have k2 := wf71_2 (if x.n ≤ x.m then x.n else x.m) (if x.n ≤ x.m then x.m else x.n)
    by_cases h3 : x.n = x.m
    · refine ⟨true, 1, [[goI x.n], [goI 0]], fun _ => ⟨?_, ?_⟩, fun h => by cases h⟩
      · refine runK (t45 x.op x.d x.a x.b x.n x.m x.args _) ?_
        rw [beq_iff_eq.2 h2]
        refine ⟨k1, ?_⟩
        rw [← h3] at k2 ⊢
        simp only [Int.le_refl, if_true] at k2 ⊢
        rw [beq_self_eq_true] at k2 ⊢
        exact ⟨k2, by trivial⟩
      · unfold U.next
        rw [if_neg h1, if_pos h2, if_pos h3]; rfl
    · have hne : ((if x.n ≤ x.m then x.m else x.n) == (if x.n ≤ x.m then x.n else x.m)) = false := by
        rw [beq_eq_false_iff_ne]
        split <;> omega
      refine ⟨true, 2, [[goI (if x.n ≤ x.m then x.n else x.m)], [goI (if x.n ≤ x.m then x.m else x.n)]], fun _ => ⟨?_, ?_⟩, fun h => by cases h⟩
      · refine runK (t45 x.op x.d x.a x.b x.n x.m x.args _) ?_
        rw [beq_iff_eq.2 h2]
        refine ⟨k1, ?_⟩
        rw [hne] at k2 ⊢
        exact ⟨k2, rfl⟩
      · unfold U.next
        rw [if_neg h1, if_pos h2, if_neg h3]
        by_cases h4 : x.n ≤ x.m
        · rw [if_pos h4, if_pos h4, if_neg (by omega)]; rfl
        · rw [if_neg h4, if_neg h4, if_pos (by omega)]; rfl
  · by_cases h1 : x.op = 21
    · refine ⟨true, 1, [[goI x.n]], fun _ => ⟨?_, ?_⟩, fun h => by cases h⟩
      · refine runK (t45 x.op x.d x.a x.b x.n x.m x.args _) ?_
        rw [beq_eq_false_iff_ne.2 h2, beq_iff_eq.2 h1]
        exact ⟨wf70 [x.n] (by simp), runK (t71a x.n _) rfl, rfl⟩
      · unfold U.next
        rw [if_pos h1]; rfl
    · refine ⟨false, 0, [], fun h => (by cases h), fun _ => ⟨?_, ?_⟩⟩
      · refine runK (t45 x.op x.d x.a x.b x.n x.m x.args _) ?_
        rw [beq_eq_false_iff_ne.2 h2, beq_eq_false_iff_ne.2 h1]
        exact ⟨wf70_0, runK (t71 _) rfl, rfl⟩
      · unfold U.next
        rw [if_neg h1, if_neg h2]
namespace U
/-- The blocks that come next to a block. -/
def nextAt (bl : List XB) (n : Int) : List Int := if n < 0 ∨ n ≥ bl.length then [] else if (blk bl n.toNat).code.length = 0 then [] else next (ins (blk bl n.toNat).code ((blk bl n.toNat).code.length - 1))
end U
theorem nextAt_len (bl : List XB) (n : Int) : (U.nextAt bl n).length ≤ 2 := by
  unfold U.nextAt
  split
  · exact Nat.zero_le _
  · split
    · exact Nat.zero_le _
    · exact next_len _
/-- No code is too long. -/
def CodeOk (bl : List XB) : Prop := ∀ b ∈ bl, b.code.length ≤ 3000
theorem wf16 (ks bs : List (List AV)) (p q : Int) (bl : List XB) (n : Int) (hb : CodeOk bl) : Wf Tryd.prog H 58 [.agg [.sl ks, .sl bs, goI p, goI q, .sl (bl.map encB)], goI n] [] = some (.sl ((U.nextAt bl n).map encI), [], []) := by
  refine runK (t16 ks bs p q bl n ((U.nextAt bl n).map encI) _) ?_
  rw [List.length_map]
  by_cases h1 : n < 0
  · rw [decide_eq_true h1]
    unfold U.nextAt
    rw [if_pos (.inl h1)]; exact rfl
  rw [decide_eq_false h1]
  by_cases h2 : n ≥ bl.length
  · rw [decide_eq_true h2]
    unfold U.nextAt
    rw [if_pos (.inr h2)]; exact rfl
  rw [decide_eq_false h2]
  have hn : n.toNat < bl.length := by omega
  have hc := hb _ (blk_mem hn)
  rw [rowB hn, getB hn]
  simp only [encB, rdL, slOf, List.getD_cons_zero, List.length_map]
  refine ⟨⟨by omega, by trivial⟩, ?_⟩
  by_cases h3 : (U.blk bl n.toNat).code.length = 0
  · have h3' : ((U.blk bl n.toNat).code.length : Int) = 0 := by omega
    rw [beq_iff_eq.2 h3']
    unfold U.nextAt
    rw [if_neg (by omega), if_pos h3]; exact rfl
  have h3' : ¬ ((U.blk bl n.toNat).code.length : Int) = 0 := by omega
  rw [beq_eq_false_iff_ne.2 h3']
  have w1 : IntKind.i64.wrap (((U.blk bl n.toNat).code.length : Int) - 1) = (((U.blk bl n.toNat).code.length - 1 : Nat) : Int) := by rw [wrap64] <;> omega
  have hl : (U.blk bl n.toNat).code.length - 1 < (U.blk bl n.toNat).code.length := by omega
  rw [w1, Int.toNat_natCast, rowIn hl, getIn hl]
  have e : U.nextAt bl n = U.next (U.ins (U.blk bl n.toNat).code ((U.blk bl n.toNat).code.length - 1)) := by
    unfold U.nextAt
    rw [if_neg (by omega), if_neg h3]
  rw [e]
  have k := wf46 (U.ins (U.blk bl n.toNat).code ((U.blk bl n.toNat).code.length - 1))
  simp only [encIn, rdI, rdL, slOf, List.getD_cons_zero, List.getD_cons_succ, int_goI]
  exact ⟨⟨by omega, by trivial⟩, ⟨by omega, by trivial⟩, k, by trivial⟩
theorem wf15 (ks bs : List (List AV)) (p q : Int) (bl : List XB) (n : Int) (hb : CodeOk bl) : Wf Tryd.prog H 76 [.agg [.sl ks, .sl bs, goI p, goI q, .sl (bl.map encB)], goI n] [] = some (.sl ((U.nextAt bl n).map encI), [], []) := by
  obtain ⟨b, k, rows, g1, g2⟩ := wf45 (U.ins (U.blk bl n.toNat).code ((U.blk bl n.toNat).code.length - 1))
  refine runK (t15 ks bs p q bl n b k rows _) ?_
  rw [List.length_map]
  by_cases h1 : n < 0
  · rw [decide_eq_true h1]
    unfold U.nextAt
    rw [if_pos (.inl h1)]; exact rfl
  rw [decide_eq_false h1]
  by_cases h2 : n ≥ bl.length
  · rw [decide_eq_true h2]
    unfold U.nextAt
    rw [if_pos (.inr h2)]; exact rfl
  rw [decide_eq_false h2]
  have hn : n.toNat < bl.length := by omega
  have hc := hb _ (blk_mem hn)
  rw [rowB hn, getB hn]
  simp only [encB, rdL, slOf, List.getD_cons_zero, List.length_map]
  refine ⟨⟨by omega, by trivial⟩, ?_⟩
  by_cases h3 : (U.blk bl n.toNat).code.length = 0
  · have h3' : ((U.blk bl n.toNat).code.length : Int) = 0 := by omega
    rw [beq_iff_eq.2 h3']
    unfold U.nextAt
    rw [if_neg (by omega), if_pos h3]; exact rfl
  have h3' : ¬ ((U.blk bl n.toNat).code.length : Int) = 0 := by omega
  rw [beq_eq_false_iff_ne.2 h3']
  have w1 : IntKind.i64.wrap (((U.blk bl n.toNat).code.length : Int) - 1) = (((U.blk bl n.toNat).code.length - 1 : Nat) : Int) := by rw [wrap64] <;> omega
  have hl : (U.blk bl n.toNat).code.length - 1 < (U.blk bl n.toNat).code.length := by omega
  rw [w1, Int.toNat_natCast, rowIn hl, getIn hl]
  have e : U.nextAt bl n = U.next (U.ins (U.blk bl n.toNat).code ((U.blk bl n.toNat).code.length - 1)) := by
    unfold U.nextAt
    rw [if_neg (by omega), if_neg h3]
  rw [e]
  simp only [encIn, rdI, rdL, slOf, List.getD_cons_zero, List.getD_cons_succ, int_goI]
  refine ⟨⟨by omega, by trivial⟩, ?_⟩
  cases b with
  | true =>
    obtain ⟨g, g'⟩ := g1 rfl
    rw [List.drop_zero, g']
    exact ⟨g, rfl⟩
  | false =>
    obtain ⟨g, g'⟩ := g2 rfl
    rw [g']
    exact ⟨g, rfl⟩
/-! Searches. -/
namespace U
def hasFrom (l : List Int) (n : Int) : Nat → Nat → Bool := anyFrom fun j => nt l j == n
def hasI (l : List Int) (n : Int) : Bool := hasFrom l n l.length 0
end U
theorem hasI_iff (l : List Int) (n : Int) : U.hasI l n = true ↔ n ∈ l := by
  unfold U.hasI U.hasFrom
  rw [anyFrom_iff]
  constructor
  · rintro ⟨j, _, h2, h3⟩
    have := beq_iff_eq.1 h3
    rw [← this]
    exact getD_mem (by omega)
  · intro h
    obtain ⟨j, hj, e⟩ := mem_getD h
    exact ⟨j, Nat.zero_le _, by omega, beq_iff_eq.2 e⟩
theorem loop72_2 (l : List Int) (n : Int) (hl : l.length < 1000000) : ∀ (d i : Nat), i + d = l.length →
    LoopTo Tryd.prog H (H 99) 0 (loopOf Tryd.prog 99 2) (mkS 19 [(0, .sl (l.map encI)), (1, goI n), (7, goI l.length), (8, goI i)])
      (if 0 ≤ U.firstOf (fun j => n == U.nt l j) d i then (.ret, mkS 19 [(4, goI (U.firstOf (fun j => n == U.nt l j) d i))]) else (.exit 0, mkS 19 []))
  | 0, i, hd => by
    refine turnK (t72_2 l n l.length i _) ?_
    rw [decide_eq_false (by omega)]
    exact rfl
  | d + 1, i, hd => by
    have hi : i < l.length := by omega
    have ih := loop72_2 l n hl d (i + 1) (by omega)
    refine turnK (t72_2 l n l.length i _) ?_
    rw [decide_eq_true (by omega), wrapS hi hl, rowI hi, getI hi]
    simp only [rdI, List.getD_cons_zero, int_goI]
    refine ⟨⟨by omega, by trivial⟩, ?_⟩
    cases h : (n == U.nt l i) with
    | true =>
      have e : U.firstOf (fun j => n == U.nt l j) (d + 1) i = (i : Int) := if_pos h
      rw [e, if_pos (by omega)]
      exact rfl
    | false =>
      have e : U.firstOf (fun j => n == U.nt l j) (d + 1) i = U.firstOf (fun j => n == U.nt l j) d (i + 1) := if_neg (by simp only [h]; simp)
      rw [e]
      exact ih
theorem wf72 (l : List Int) (n : Int) (hl : l.length < 1000000) : Wf Tryd.prog H 99 [.sl (l.map encI), goI n] [] = some (goI (U.firstOf (fun j => n == U.nt l j) l.length 0), [], []) := by
  have h := loop72_2 l n hl l.length 0 (by omega)
  refine runK (t72 l n (U.firstOf (fun j => n == U.nt l j) l.length 0) (decide (0 ≤ U.firstOf (fun j => n == U.nt l j) l.length 0)) _) ?_
  rw [List.length_map]
  by_cases hb : 0 ≤ U.firstOf (fun j => n == U.nt l j) l.length 0
  · rw [if_pos hb] at h
    rw [decide_eq_true hb]; exact ⟨h, rfl⟩
  · rw [if_neg hb] at h
    rw [decide_eq_false hb]
    have := firstOf_neg (fun j => n == U.nt l j) l.length 0
    rw [show U.firstOf (fun j => n == U.nt l j) l.length 0 = -1 from by omega]
    exact ⟨h, rfl⟩
theorem wf47 (l : List Int) (n : Int) (hl : l.length < 1000000) : Wf Tryd.prog H 75 [.sl (l.map encI), goI n] [] = some (goB (U.hasI l n), [], []) := by
  refine runK (t47 l n (U.firstOf (fun j => n == U.nt l j) l.length 0) _) ⟨wf72 l n hl, ?_⟩
  have e : decide (U.firstOf (fun j => n == U.nt l j) l.length 0 ≥ 0) = U.hasI l n := by
    rw [Bool.eq_iff_iff, decide_eq_true_eq, hasI_iff]
    constructor
    · intro h
      obtain ⟨w, _, _, h3, h4⟩ := firstOf_val _ _ _ h
      have := beq_iff_eq.1 h4
      rw [this]
      exact getD_mem (by omega)
    · intro h
      obtain ⟨j, hj, e⟩ := mem_getD h
      exact firstOf_ge _ _ _ j (Nat.zero_le _) (by omega) (beq_iff_eq.2 e.symm)
  rw [e]
namespace U
def ints (a b : List Int) (i : Nat) : Bool := allFrom (fun j => decide (nt a j = nt b j)) i a.length
def same (a b : List Int) : Bool := decide (a.length = b.length) && ints a b 0
end U
theorem ints_step (a b : List Int) {i : Nat} (h : i < a.length) : U.ints a b i = (decide (U.nt a i = U.nt b i) && U.ints a b (i + 1)) := allFrom_step _ h
theorem ints_end {a b : List Int} {i : Nat} (h : a.length ≤ i) : U.ints a b i = true := allFrom_end _ h
theorem loop14_4 (a b : List Int) (hl : a.length < 1000000) (hab : a.length = b.length) : ∀ (d i : Nat), i + d = a.length →
    LoopTo Tryd.prog H (H 13) 0 (loopOf Tryd.prog 13 4) (mkS 26 [(0, .sl (a.map encI)), (1, .sl (b.map encI)), (5, goI i)]) (if U.ints a b i then (.exit 0, mkS 26 []) else (.ret, mkS 26 [(4, goB false)]))
  | 0, i, hd => by
    refine turnK (t14_4 a b i _) ?_
    rw [List.length_map, decide_eq_false (by omega), ints_end (by omega)]
    exact rfl
  | d + 1, i, hd => by
    have hi : i < a.length := by omega
    have hib : i < b.length := by omega
    have ih := loop14_4 a b hl hab d (i + 1) (by omega)
    refine turnK (t14_4 a b i _) ?_
    rw [List.length_map, decide_eq_true (by omega), wrapS hi hl, rowI hi, getI hi, rowI hib, getI hib, ints_step a b hi]
    simp only [rdI, List.getD_cons_zero, int_goI]
    refine ⟨⟨by omega, by trivial⟩, ⟨by omega, by trivial⟩, ?_⟩
    by_cases h : U.nt a i = U.nt b i
    · rw [beq_iff_eq.2 h, decide_eq_true h]; exact ih
    · rw [beq_eq_false_iff_ne.2 h, decide_eq_false h]; exact rfl
theorem wf14 (a b : List Int) (hl : a.length < 1000000) : Wf Tryd.prog H 13 [.sl (a.map encI), .sl (b.map encI)] [] = some (goB (U.same a b), [], []) := by
  refine runK (t14 a b (U.ints a b 0) _) ?_
  rw [List.length_map, List.length_map]
  unfold U.same
  by_cases hab : a.length = b.length
  · have h := loop14_4 a b hl hab a.length 0 (by omega)
    rw [hab, beq_self_eq_true, decide_eq_true rfl]
    cases h1 : U.ints a b 0 with
    | true => rw [h1] at h; exact ⟨h, rfl⟩
    | false => rw [h1] at h; exact ⟨h, rfl⟩
  · have h2 : ((a.length : Int) == (b.length : Int)) = false := beq_eq_false_iff_ne.2 (by omega)
    rw [decide_eq_false hab, h2]
    exact rfl
theorem same_self (a : List Int) : U.same a a = true := by
  unfold U.same U.ints
  rw [decide_eq_true rfl, Bool.true_and, allFrom_iff]
  intro j _ _
  exact decide_eq_true rfl
end Go.Proofs.YtabdcfcnngnnoaaDoor.E
