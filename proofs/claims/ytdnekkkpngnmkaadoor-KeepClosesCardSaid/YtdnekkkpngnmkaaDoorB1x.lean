/- Functions, by what the evaluator asks; the theorems t.. were printed by show.txt, a program of this session. -/
import Derived.Test.YtdnekkkpngnmkaaDoor05d
import Derived.Test.YtdnekkkpngnmkaaDoorB0
set_option linter.unusedVariables false
set_option linter.unusedSimpArgs false
set_option maxRecDepth 100000
namespace Go.Proofs.YtdnekkkpngnmkaaDoor.E
open Go
def goU (n : Int) : AV := .v (.int .u64 n)
def encU (n : Int) : List AV := [goU n]
namespace U
def withL (s l : List Int) : List Int := Bit.neatL (l.foldl Bit.putL s)
def withoutL (s l : List Int) : List Int := Bit.neatL (l.foldl Bit.dropL s)
def decU (l : List (List AV)) : List Int := l.map fun r => rdI r 0
def neatR (l : List (List AV)) : List (List AV) := (Bit.neatL (decU l)).map encU
def orW (a b : Int) : Int := Bit.orI a b
def sameR (a b : List (List AV)) : Bool := decide (decU a = decU b)
def hasW (l : List (List AV)) (n : Int) : Bool := Bit.hasB (decU l) n
end U
def LB50 (l : List Int) (m : Nat) : Nat → St → LT := fun id st => .is (.exit 0) (mkS 21 [(0, .os 0 0 m)] [.arr 1 (l.map encU)])
def LB50r (m : List Int) : Nat → St → LT := fun id st => .is (.exit 0) (mkS 21 [(0, .sl (m.map encU))])
def FB16 (b : Bool) (k : Nat) : CallT := fun f args sto => match f, args, sto with
 | 49, [.sl s], [] => .is (.os 0 0 s.length, [.arr 1 s], [])
 | 50, [.os 0 0 _], [.arr 1 x] => .is (.os 0 0 k, [.arr 1 x], [])
 | 42, _, _ => .is (goB b, [], [])
 | _, _, _ => .no
def LB16 (n : Nat) (x : List Int) : Nat → St → LT := fun id st => .is (.exit 0) (mkS n [(0, .os 0 0 x.length)] [.arr 1 (x.map encU)])
def FB79 (k : Nat) : CallT := fun f args sto => match f, args, sto with
 | 89, [.v (.int _ a), .v (.int _ b)], [] => .is (goU (U.orW a b), [], [])
 | 50, [.os 0 0 _], [.arr 1 x] => .is (.os 0 0 k, [.arr 1 x], [])
 | _, _, _ => .no
def LB79 (x : List Int) : Nat → St → LT := fun id st => .is (.exit 0) (mkS 45 [(7, .os 0 0 x.length)] [.arr 1 (x.map encU)])
def FB74 (m : List Int) (k : Nat) : CallT := fun f args sto => match f with
 | 79 => .is (.os 0 0 k, [.arr 1 (m.map encU)], [])
 | _ => .no
def LB74 (m : List Int) : Nat → St → LT := fun id st => .is (.exit 0) (mkS 17 [(3, .sl (m.map encU))])
def LB51 (b : Bool) : Nat → St → LT := fun id st => .by b (.is (.exit 0) (mkS 26 [])) (.is .ret (mkS 26 [(4, goB false)]))
def FB14s : CallT := fun f args sto => match f, args with
 | 50, [.sl x] => .is (.sl (U.neatR x), [], [])
 | 51, [.sl a, .sl b] => .is (goB (U.sameR a b), [], [])
 | _, _ => .no

theorem b50 (l : List Int) (n : Nat) (m : Nat) (r : AV × List Row × List Nat) : (runT Tryd.prog H (fun f args sto => CT.of (F0 f args sto)) (LB50 l m) false 50 [AV.os 0 0 n]
 [Row.arr 1 (List.map encU l)] fun q => q = r) = (LoopTo Tryd.prog H (H 50) 1 (loopOf Tryd.prog 50 1) (mkS 21 [(0, AV.os 0 0 n)] [Row.arr 1 (List.map encU l)])
 (Ex.exit 0, mkS 21 [(0, AV.os 0 0 m)] [Row.arr 1 (List.map encU l)]) ∧
 (AV.os 0 0 m, [Row.arr 1 (List.map encU l)], []) = r) := by kernel_rfl
theorem b50_1 (l : List Int) (n : Nat) (r : Ex × St) : (turnT Tryd.prog H (fun f args sto => CT.of (F0 f args sto)) L0 false (H 50) 1 (loopOf Tryd.prog 50 1)
 (mkS 21 [(0, AV.os 0 0 n)] [Row.arr 1 (List.map encU l)]) r) = (TB (decide ((↑n : Int) > 0))
 ((0 ≤ IntKind.wrap IntKind.i64 ((↑n : Int) - 1) ∧
 IntKind.wrap IntKind.i64 ((↑n : Int) - 1) < (↑n : Int) ∧
 0 + Int.toNat (IntKind.wrap IntKind.i64 ((↑n : Int) - 1)) < List.length (List.map encU l)) ∧
 cutAt 1 0 (List.map encU l)[0 + Int.toNat (IntKind.wrap IntKind.i64 ((↑n : Int) - 1))]? =
 some
 [AV.v
 (Value.int IntKind.u64
 (rdI (rowAt (List.map encU l) (0 + Int.toNat (IntKind.wrap IntKind.i64 ((↑n : Int) - 1)))) 0))] ∧
 TB (rdI (rowAt (List.map encU l) (0 + Int.toNat (IntKind.wrap IntKind.i64 ((↑n : Int) - 1)))) 0 == 0)
 ((0 ≤ IntKind.wrap IntKind.i64 ((↑n : Int) - 1) ∧
 IntKind.wrap IntKind.i64 ((↑n : Int) - 1) ≤ (↑(List.length (List.map encU l) - 0) : Int)) ∧
 LoopTo Tryd.prog H (H 50) 1 (loopOf Tryd.prog 50 1)
 (mkS 21 [(0, AV.os 0 0 (Int.toNat (IntKind.wrap IntKind.i64 ((↑n : Int) - 1)) - 0))]
 [Row.arr 1 (List.map encU l)])
 r)
 ((Ex.exit 0, mkS 21 [(0, AV.os 0 0 n)] [Row.arr 1 (List.map encU l)]) = r))
 ((Ex.exit 0, mkS 21 [(0, AV.os 0 0 n)] [Row.arr 1 (List.map encU l)]) = r)) := by kernel_rfl
theorem b50r (l : List Int) (m : List Int) (r : AV × List Row × List Nat) : (runT Tryd.prog H (fun f args sto => CT.of (F0 f args sto)) (LB50r m) false 50 [AV.sl (List.map encU l)] [] fun q =>
 q = r) = (LoopTo Tryd.prog H (H 50) 0 (loopOf Tryd.prog 50 1) (mkS 21 [(0, AV.sl (List.map encU l))])
 (Ex.exit 0, mkS 21 [(0, AV.sl (List.map encU m))]) ∧
 (AV.sl (List.map encU m), [], []) = r) := by kernel_rfl
theorem b50r_1 (l : List Int) (r : Ex × St) : (turnT Tryd.prog H (fun f args sto => CT.of (F0 f args sto)) L0 false (H 50) 0 (loopOf Tryd.prog 50 1)
 (mkS 21 [(0, AV.sl (List.map encU l))]) r) = (TB (decide ((↑(List.length (List.map encU l)) : Int) > 0))
 ((0 ≤ IntKind.wrap IntKind.i64 ((↑(List.length (List.map encU l)) : Int) - 1) ∧
 (List.map encU l)[Int.toNat (IntKind.wrap IntKind.i64 ((↑(List.length (List.map encU l)) : Int) - 1))]? =
 some
 [AV.v
 (Value.int IntKind.u64
 (rdI
 (rowAt (List.map encU l)
 (Int.toNat (IntKind.wrap IntKind.i64 ((↑(List.length (List.map encU l)) : Int) - 1))))
 0))]) ∧
 TB
 (rdI
 (rowAt (List.map encU l)
 (Int.toNat (IntKind.wrap IntKind.i64 ((↑(List.length (List.map encU l)) : Int) - 1))))
 0 ==
 0)
 (rowsOk 1 (List.map encU l) = true ∧
 (0 ≤ IntKind.wrap IntKind.i64 ((↑(List.length (List.map encU l)) : Int) - 1) ∧
 IntKind.wrap IntKind.i64 ((↑(List.length (List.map encU l)) : Int) - 1) ≤
 (↑(List.length (List.map encU l)) : Int)) ∧
 LoopTo Tryd.prog H (H 50) 0 (loopOf Tryd.prog 50 1)
 (mkS 21
 [(0,
 AV.sl
 (List.drop 0
 (List.take (Int.toNat (IntKind.wrap IntKind.i64 ((↑(List.length (List.map encU l)) : Int) - 1)))
 (List.map encU l))))])
 r)
 ((Ex.exit 0, mkS 21 [(0, AV.sl (List.map encU l))]) = r))
 ((Ex.exit 0, mkS 21 [(0, AV.sl (List.map encU l))]) = r)) := by kernel_rfl
theorem b42 (l : List Int) (n : Int) (r : AV × List Row × List Nat) : (runT Tryd.prog H (fun f args sto => CT.of (F0 f args sto)) L0 false 42 [AV.sl (List.map encU l), goI n] [] fun q =>
 q = r) = (TB (decide (n ≥ 0))
 (iz 64 ≠ 0 ∧
 TB (decide (IntKind.wrap IntKind.i64 (Int.tdiv n 64) < (↑(List.length (List.map encU l)) : Int)))
 (iz 64 ≠ 0 ∧
 (0 ≤ IntKind.wrap IntKind.i64 (Int.tdiv n 64) ∧
 (List.map encU l)[Int.toNat (IntKind.wrap IntKind.i64 (Int.tdiv n 64))]? =
 some
 [AV.v
 (Value.int IntKind.u64
 (rdI (rowAt (List.map encU l) (Int.toNat (IntKind.wrap IntKind.i64 (Int.tdiv n 64)))) 0))]) ∧
 iz 64 ≠ 0 ∧
 0 ≤ Int.tmod n 64 ∧
 (goB
 (bitI BinOp.and IntKind.u64
 (shrI IntKind.u64
 (rdI (rowAt (List.map encU l) (Int.toNat (IntKind.wrap IntKind.i64 (Int.tdiv n 64)))) 0)
 (Int.tmod n 64))
 1 ==
 1),
 [], []) =
 r)
 ((goB false, [], []) = r))
 ((goB false, [], []) = r)) := by kernel_rfl
theorem b16 (s : List Int) (l : List Int) (x : List Int) (k : Nat) (r : AV × List Row × List Nat) : (runT Tryd.prog H (FB16 false k) (LB16 46 x) false 16 [AV.sl (List.map encU s), AV.sl (List.map encI l)] [] fun q =>
 q = r) = (Wf Tryd.prog H 49 [AV.sl (List.map encU s)] [] =
 some (AV.os 0 0 (List.length (List.map encU s)), [Row.arr 1 (List.map encU s)], []) ∧
 LoopTo Tryd.prog H (H 16) 0 (loopOf Tryd.prog 16 3)
 (mkS 46
 [(0, AV.os 0 0 (List.length (List.map encU s))), (10, AV.sl (List.map encI l)),
 (11, goI (↑(List.length (List.map encI l)) : Int)), (12, goI 0)]
 [Row.arr 1 (List.map encU s)])
 (Ex.exit 0, mkS 46 [(0, AV.os 0 0 (List.length x))] [Row.arr 1 (List.map encU x)]) ∧
 Wf Tryd.prog H 50 [AV.os 0 0 (List.length x)] [Row.arr 1 (List.map encU x)] =
 some (AV.os 0 0 k, [Row.arr 1 (List.map encU x)], []) ∧
 (AV.os 0 0 k, [Row.arr 1 (List.map encU x)], []) = r) := by kernel_rfl
theorem b16_3 (l : List Int) (x : List Int) (n : Int) (i : Nat) (r : Ex × St) : (turnT Tryd.prog H (fun f args sto => CT.of (F0 f args sto)) L0 false (H 16) 0 (loopOf Tryd.prog 16 3)
 (mkS 46 [(0, AV.os 0 0 (List.length x)), (10, AV.sl (List.map encI l)), (11, goI n), (12, goI (↑i : Int))]
 [Row.arr 1 (List.map encU x)])
 r) = (TB (decide ((↑i : Int) < n))
 ((0 ≤ (↑i : Int) ∧ (List.map encI l)[i]? = some [goI (rdI (rowAt (List.map encI l) i) 0)]) ∧
 TB (decide (rdI (rowAt (List.map encI l) i) 0 < 0))
 (LoopTo Tryd.prog H (H 16) 0 (loopOf Tryd.prog 16 3)
 (mkS 46
 [(0, AV.os 0 0 (List.length x)), (10, AV.sl (List.map encI l)), (11, goI n),
 (12, goI (IntKind.wrap IntKind.i64 ((↑i : Int) + 1)))]
 [Row.arr 1 (List.map encU x)])
 r)
 (TB (decide (rdI (rowAt (List.map encI l) i) 0 ≥ 4096))
 (LoopTo Tryd.prog H (H 16) 0 (loopOf Tryd.prog 16 3)
 (mkS 46
 [(0, AV.os 0 0 (List.length x)), (10, AV.sl (List.map encI l)), (11, goI n),
 (12, goI (IntKind.wrap IntKind.i64 ((↑i : Int) + 1)))]
 [Row.arr 1 (List.map encU x)])
 r)
 (iz 64 ≠ 0 ∧
 TB
 (decide
 (IntKind.wrap IntKind.i64
 (IntKind.wrap IntKind.i64
 (IntKind.wrap IntKind.i64 (Int.tdiv (rdI (rowAt (List.map encI l) i) 0) 64) + 1) -
 (↑(List.length x) : Int)) >
 0))
 ((List.length x = List.length (List.map encU x) ∧
 0 ≤
 IntKind.wrap IntKind.i64
 (IntKind.wrap IntKind.i64
 (IntKind.wrap IntKind.i64 (Int.tdiv (rdI (rowAt (List.map encI l) i) 0) 64) + 1) -
 (↑(List.length x) : Int)) ∧
 List.length x +
 Int.toNat
 (IntKind.wrap IntKind.i64
 (IntKind.wrap IntKind.i64
 (IntKind.wrap IntKind.i64 (Int.tdiv (rdI (rowAt (List.map encI l) i) 0) 64) + 1) -
 (↑(List.length x) : Int))) ≤
 1000000) ∧
 iz 64 ≠ 0 ∧
 (0 ≤ IntKind.wrap IntKind.i64 (Int.tdiv (rdI (rowAt (List.map encI l) i) 0) 64) ∧
 IntKind.wrap IntKind.i64 (Int.tdiv (rdI (rowAt (List.map encI l) i) 0) 64) <
 (↑(List.length x +
 Int.toNat
 (IntKind.wrap IntKind.i64
 (IntKind.wrap IntKind.i64
 (IntKind.wrap IntKind.i64 (Int.tdiv (rdI (rowAt (List.map encI l) i) 0) 64) + 1) -
 (↑(List.length x) : Int)))) :
 Int) ∧
 0 + Int.toNat (IntKind.wrap IntKind.i64 (Int.tdiv (rdI (rowAt (List.map encI l) i) 0) 64)) <
 List.length
 (List.map encU x ++
 List.replicate
 (Int.toNat
 (IntKind.wrap IntKind.i64
 (IntKind.wrap IntKind.i64
 (IntKind.wrap IntKind.i64 (Int.tdiv (rdI (rowAt (List.map encI l) i) 0) 64) + 1) -
 (↑(List.length x) : Int))))
 [AV.v (Value.int IntKind.u64 0)])) ∧
 cutAt 1 0
 (List.map encU x ++
 List.replicate
 (Int.toNat
 (IntKind.wrap IntKind.i64
 (IntKind.wrap IntKind.i64
 (IntKind.wrap IntKind.i64 (Int.tdiv (rdI (rowAt (List.map encI l) i) 0) 64) + 1) -
 (↑(List.length x) : Int))))
 [AV.v
 (Value.int IntKind.u64
 0)])[0 +
 Int.toNat (IntKind.wrap IntKind.i64 (Int.tdiv (rdI (rowAt (List.map encI l) i) 0) 64))]? =
 some
 [AV.v
 (Value.int IntKind.u64
 (rdI
 (rowAt
 (List.map encU x ++
 List.replicate
 (Int.toNat
 (IntKind.wrap IntKind.i64
 (IntKind.wrap IntKind.i64
 (IntKind.wrap IntKind.i64
 (Int.tdiv (rdI (rowAt (List.map encI l) i) 0) 64) +
 1) -
 (↑(List.length x) : Int))))
 [AV.v (Value.int IntKind.u64 0)])
 (0 +
 Int.toNat
 (IntKind.wrap IntKind.i64 (Int.tdiv (rdI (rowAt (List.map encI l) i) 0) 64))))
 0))] ∧
 iz 64 ≠ 0 ∧
 0 ≤ Int.tmod (rdI (rowAt (List.map encI l) i) 0) 64 ∧
 (0 ≤ IntKind.wrap IntKind.i64 (Int.tdiv (rdI (rowAt (List.map encI l) i) 0) 64) ∧
 IntKind.wrap IntKind.i64 (Int.tdiv (rdI (rowAt (List.map encI l) i) 0) 64) <
 (↑(List.length x +
 Int.toNat
 (IntKind.wrap IntKind.i64
 (IntKind.wrap IntKind.i64
 (IntKind.wrap IntKind.i64
 (Int.tdiv (rdI (rowAt (List.map encI l) i) 0) 64) +
 1) -
 (↑(List.length x) : Int)))) :
 Int) ∧
 0 +
 Int.toNat
 (IntKind.wrap IntKind.i64 (Int.tdiv (rdI (rowAt (List.map encI l) i) 0) 64)) <
 List.length
 (List.map encU x ++
 List.replicate
 (Int.toNat
 (IntKind.wrap IntKind.i64
 (IntKind.wrap IntKind.i64
 (IntKind.wrap IntKind.i64
 (Int.tdiv (rdI (rowAt (List.map encI l) i) 0) 64) +
 1) -
 (↑(List.length x) : Int))))
 [AV.v (Value.int IntKind.u64 0)])) ∧
 Option.map List.length
 (List.map encU x ++
 List.replicate
 (Int.toNat
 (IntKind.wrap IntKind.i64
 (IntKind.wrap IntKind.i64
 (IntKind.wrap IntKind.i64
 (Int.tdiv (rdI (rowAt (List.map encI l) i) 0) 64) +
 1) -
 (↑(List.length x) : Int))))
 [AV.v
 (Value.int IntKind.u64
 0)])[0 +
 Int.toNat
 (IntKind.wrap IntKind.i64 (Int.tdiv (rdI (rowAt (List.map encI l) i) 0) 64))]? =
 some 1 ∧
 LoopTo Tryd.prog H (H 16) 0 (loopOf Tryd.prog 16 3)
 (mkS 46
 [(0,
 AV.os 0 0
 (List.length x +
 Int.toNat
 (IntKind.wrap IntKind.i64
 (IntKind.wrap IntKind.i64
 (IntKind.wrap IntKind.i64
 (Int.tdiv (rdI (rowAt (List.map encI l) i) 0) 64) +
 1) -
 (↑(List.length x) : Int))))),
 (10, AV.sl (List.map encI l)), (11, goI n),
 (12, goI (IntKind.wrap IntKind.i64 ((↑i : Int) + 1)))]
 [Row.arr 1
 (List.set
 (List.map encU x ++
 List.replicate
 (Int.toNat
 (IntKind.wrap IntKind.i64
 (IntKind.wrap IntKind.i64
 (IntKind.wrap IntKind.i64
 (Int.tdiv (rdI (rowAt (List.map encI l) i) 0) 64) +
 1) -
 (↑(List.length x) : Int))))
 [AV.v (Value.int IntKind.u64 0)])
 (0 +
 Int.toNat
 (IntKind.wrap IntKind.i64 (Int.tdiv (rdI (rowAt (List.map encI l) i) 0) 64)))
 [AV.v
 (Value.int IntKind.u64
 (bitI BinOp.or IntKind.u64
 (rdI
 (rowAt
 (List.map encU x ++
 List.replicate
 (Int.toNat
 (IntKind.wrap IntKind.i64
 (IntKind.wrap IntKind.i64
 (IntKind.wrap IntKind.i64
 (Int.tdiv (rdI (rowAt (List.map encI l) i) 0) 64) +
 1) -
 (↑(List.length x) : Int))))
 [AV.v (Value.int IntKind.u64 0)])
 (0 +
 Int.toNat
 (IntKind.wrap IntKind.i64
 (Int.tdiv (rdI (rowAt (List.map encI l) i) 0) 64))))
 0)
 (shlI IntKind.u64 1
 (Int.tmod (rdI (rowAt (List.map encI l) i) 0) 64))))])])
 r)
 (iz 64 ≠ 0 ∧
 (0 ≤ IntKind.wrap IntKind.i64 (Int.tdiv (rdI (rowAt (List.map encI l) i) 0) 64) ∧
 IntKind.wrap IntKind.i64 (Int.tdiv (rdI (rowAt (List.map encI l) i) 0) 64) <
 (↑(List.length x) : Int) ∧
 0 + Int.toNat (IntKind.wrap IntKind.i64 (Int.tdiv (rdI (rowAt (List.map encI l) i) 0) 64)) <
 List.length (List.map encU x)) ∧
 cutAt 1 0
 (List.map encU
 x)[0 +
 Int.toNat (IntKind.wrap IntKind.i64 (Int.tdiv (rdI (rowAt (List.map encI l) i) 0) 64))]? =
 some
 [AV.v
 (Value.int IntKind.u64
 (rdI
 (rowAt (List.map encU x)
 (0 +
 Int.toNat
 (IntKind.wrap IntKind.i64 (Int.tdiv (rdI (rowAt (List.map encI l) i) 0) 64))))
 0))] ∧
 iz 64 ≠ 0 ∧
 0 ≤ Int.tmod (rdI (rowAt (List.map encI l) i) 0) 64 ∧
 (0 ≤ IntKind.wrap IntKind.i64 (Int.tdiv (rdI (rowAt (List.map encI l) i) 0) 64) ∧
 IntKind.wrap IntKind.i64 (Int.tdiv (rdI (rowAt (List.map encI l) i) 0) 64) <
 (↑(List.length x) : Int) ∧
 0 + Int.toNat (IntKind.wrap IntKind.i64 (Int.tdiv (rdI (rowAt (List.map encI l) i) 0) 64)) <
 List.length (List.map encU x)) ∧
 Option.map List.length
 (List.map encU
 x)[0 +
 Int.toNat
 (IntKind.wrap IntKind.i64 (Int.tdiv (rdI (rowAt (List.map encI l) i) 0) 64))]? =
 some 1 ∧
 LoopTo Tryd.prog H (H 16) 0 (loopOf Tryd.prog 16 3)
 (mkS 46
 [(0, AV.os 0 0 (List.length x)), (10, AV.sl (List.map encI l)), (11, goI n),
 (12, goI (IntKind.wrap IntKind.i64 ((↑i : Int) + 1)))]
 [Row.arr 1
 (List.set (List.map encU x)
 (0 +
 Int.toNat
 (IntKind.wrap IntKind.i64 (Int.tdiv (rdI (rowAt (List.map encI l) i) 0) 64)))
 [AV.v
 (Value.int IntKind.u64
 (bitI BinOp.or IntKind.u64
 (rdI
 (rowAt (List.map encU x)
 (0 +
 Int.toNat
 (IntKind.wrap IntKind.i64
 (Int.tdiv (rdI (rowAt (List.map encI l) i) 0) 64))))
 0)
 (shlI IntKind.u64 1 (Int.tmod (rdI (rowAt (List.map encI l) i) 0) 64))))])])
 r))))
 ((Ex.exit 0, mkS 46 [(0, AV.os 0 0 (List.length x))] [Row.arr 1 (List.map encU x)]) = r)) := by kernel_rfl
theorem b13 (s : List Int) (l : List Int) (x : List Int) (k : Nat) (r : AV × List Row × List Nat) : (runT Tryd.prog H (FB16 false k) (LB16 31 x) false 13 [AV.sl (List.map encU s), AV.sl (List.map encI l)] [] fun q =>
 q = r) = (Wf Tryd.prog H 49 [AV.sl (List.map encU s)] [] =
 some (AV.os 0 0 (List.length (List.map encU s)), [Row.arr 1 (List.map encU s)], []) ∧
 LoopTo Tryd.prog H (H 13) 0 (loopOf Tryd.prog 13 3)
 (mkS 31
 [(0, AV.os 0 0 (List.length (List.map encU s))), (9, AV.sl (List.map encI l)),
 (10, goI (↑(List.length (List.map encI l)) : Int)), (11, goI 0)]
 [Row.arr 1 (List.map encU s)])
 (Ex.exit 0, mkS 31 [(0, AV.os 0 0 (List.length x))] [Row.arr 1 (List.map encU x)]) ∧
 Wf Tryd.prog H 50 [AV.os 0 0 (List.length x)] [Row.arr 1 (List.map encU x)] =
 some (AV.os 0 0 k, [Row.arr 1 (List.map encU x)], []) ∧
 (AV.os 0 0 k, [Row.arr 1 (List.map encU x)], []) = r) := by kernel_rfl
theorem b13_3 (l : List Int) (x : List Int) (n : Int) (i : Nat) (b : Bool) (r : Ex × St) : (turnT Tryd.prog H (FB16 b 0) L0 false (H 13) 0 (loopOf Tryd.prog 13 3)
 (mkS 31 [(0, AV.os 0 0 (List.length x)), (9, AV.sl (List.map encI l)), (10, goI n), (11, goI (↑i : Int))]
 [Row.arr 1 (List.map encU x)])
 r) = (TB (decide ((↑i : Int) < n))
 ((0 ≤ (↑i : Int) ∧ (List.map encI l)[i]? = some [goI (rdI (rowAt (List.map encI l) i) 0)]) ∧
 Wf Tryd.prog H 42
 [AV.sl (List.take (List.length x) (List.drop 0 (List.map encU x))), goI (rdI (rowAt (List.map encI l) i) 0)]
 [] =
 some (goB b, [], []) ∧
 TB b
 (iz 64 ≠ 0 ∧
 (0 ≤ IntKind.wrap IntKind.i64 (Int.tdiv (rdI (rowAt (List.map encI l) i) 0) 64) ∧
 IntKind.wrap IntKind.i64 (Int.tdiv (rdI (rowAt (List.map encI l) i) 0) 64) < (↑(List.length x) : Int) ∧
 0 + Int.toNat (IntKind.wrap IntKind.i64 (Int.tdiv (rdI (rowAt (List.map encI l) i) 0) 64)) <
 List.length (List.map encU x)) ∧
 cutAt 1 0
 (List.map encU
 x)[0 + Int.toNat (IntKind.wrap IntKind.i64 (Int.tdiv (rdI (rowAt (List.map encI l) i) 0) 64))]? =
 some
 [AV.v
 (Value.int IntKind.u64
 (rdI
 (rowAt (List.map encU x)
 (0 +
 Int.toNat (IntKind.wrap IntKind.i64 (Int.tdiv (rdI (rowAt (List.map encI l) i) 0) 64))))
 0))] ∧
 iz 64 ≠ 0 ∧
 0 ≤ Int.tmod (rdI (rowAt (List.map encI l) i) 0) 64 ∧
 (0 ≤ IntKind.wrap IntKind.i64 (Int.tdiv (rdI (rowAt (List.map encI l) i) 0) 64) ∧
 IntKind.wrap IntKind.i64 (Int.tdiv (rdI (rowAt (List.map encI l) i) 0) 64) <
 (↑(List.length x) : Int) ∧
 0 + Int.toNat (IntKind.wrap IntKind.i64 (Int.tdiv (rdI (rowAt (List.map encI l) i) 0) 64)) <
 List.length (List.map encU x)) ∧
 Option.map List.length
 (List.map encU
 x)[0 +
 Int.toNat (IntKind.wrap IntKind.i64 (Int.tdiv (rdI (rowAt (List.map encI l) i) 0) 64))]? =
 some 1 ∧
 LoopTo Tryd.prog H (H 13) 0 (loopOf Tryd.prog 13 3)
 (mkS 31
 [(0, AV.os 0 0 (List.length x)), (9, AV.sl (List.map encI l)), (10, goI n),
 (11, goI (IntKind.wrap IntKind.i64 ((↑i : Int) + 1)))]
 [Row.arr 1
 (List.set (List.map encU x)
 (0 +
 Int.toNat
 (IntKind.wrap IntKind.i64 (Int.tdiv (rdI (rowAt (List.map encI l) i) 0) 64)))
 [AV.v
 (Value.int IntKind.u64
 (bitI BinOp.andNot IntKind.u64
 (rdI
 (rowAt (List.map encU x)
 (0 +
 Int.toNat
 (IntKind.wrap IntKind.i64
 (Int.tdiv (rdI (rowAt (List.map encI l) i) 0) 64))))
 0)
 (shlI IntKind.u64 1 (Int.tmod (rdI (rowAt (List.map encI l) i) 0) 64))))])])
 r)
 (LoopTo Tryd.prog H (H 13) 0 (loopOf Tryd.prog 13 3)
 (mkS 31
 [(0, AV.os 0 0 (List.length x)), (9, AV.sl (List.map encI l)), (10, goI n),
 (11, goI (IntKind.wrap IntKind.i64 ((↑i : Int) + 1)))]
 [Row.arr 1 (List.map encU x)])
 r))
 ((Ex.exit 0, mkS 31 [(0, AV.os 0 0 (List.length x))] [Row.arr 1 (List.map encU x)]) = r)) := by kernel_rfl
theorem b89 (a : Int) (b : Int) (r : AV × List Row × List Nat) : (runT Tryd.prog H (fun f args sto => CT.of (F0 f args sto)) L0 false 89 [goU a, goU b] [] fun q => q = r) = ((AV.v (Value.int IntKind.u64 (bitI BinOp.or IntKind.u64 a b)), [], []) = r) := by kernel_rfl
theorem b79 (a : List Int) (b : List Int) (x : List Int) (k : Nat) (r : AV × List Row × List Nat) : (runT Tryd.prog H (FB79 k) (LB79 x) false 79 [AV.sl (List.map encU a), AV.sl (List.map encU b), AV.clo 89 []] [] fun q =>
 q = r) = (((0 ≤
 if true = true then
 if (↑(List.length (List.map encU a)) : Int) < (↑(List.length (List.map encU b)) : Int) then
 (↑(List.length (List.map encU b)) : Int)
 else (↑(List.length (List.map encU a)) : Int)
 else
 if (↑(List.length (List.map encU b)) : Int) < (↑(List.length (List.map encU a)) : Int) then
 (↑(List.length (List.map encU b)) : Int)
 else (↑(List.length (List.map encU a)) : Int)) ∧
 ((if true = true then
 if (↑(List.length (List.map encU a)) : Int) < (↑(List.length (List.map encU b)) : Int) then
 (↑(List.length (List.map encU b)) : Int)
 else (↑(List.length (List.map encU a)) : Int)
 else
 if (↑(List.length (List.map encU b)) : Int) < (↑(List.length (List.map encU a)) : Int) then
 (↑(List.length (List.map encU b)) : Int)
 else (↑(List.length (List.map encU a)) : Int)) ≤
 if true = true then
 if (↑(List.length (List.map encU a)) : Int) < (↑(List.length (List.map encU b)) : Int) then
 (↑(List.length (List.map encU b)) : Int)
 else (↑(List.length (List.map encU a)) : Int)
 else
 if (↑(List.length (List.map encU b)) : Int) < (↑(List.length (List.map encU a)) : Int) then
 (↑(List.length (List.map encU b)) : Int)
 else (↑(List.length (List.map encU a)) : Int)) ∧
 (if true = true then
 if (↑(List.length (List.map encU a)) : Int) < (↑(List.length (List.map encU b)) : Int) then
 (↑(List.length (List.map encU b)) : Int)
 else (↑(List.length (List.map encU a)) : Int)
 else
 if (↑(List.length (List.map encU b)) : Int) < (↑(List.length (List.map encU a)) : Int) then
 (↑(List.length (List.map encU b)) : Int)
 else (↑(List.length (List.map encU a)) : Int)) ≤
 (↑1000000 : Int)) ∧
 rowsOk 1 (List.map encU a) = true ∧
 LoopTo Tryd.prog H (H 79) 0 (loopOf Tryd.prog 79 4)
 (mkS 45
 [(1, AV.sl (List.map encU b)), (2, AV.clo 89 []),
 (7,
 AV.os 0 0
 (List.length
 (List.replicate
 (Int.toNat
 (if true = true then
 if (↑(List.length (List.map encU a)) : Int) < (↑(List.length (List.map encU b)) : Int) then
 (↑(List.length (List.map encU b)) : Int)
 else (↑(List.length (List.map encU a)) : Int)
 else
 if (↑(List.length (List.map encU b)) : Int) < (↑(List.length (List.map encU a)) : Int) then
 (↑(List.length (List.map encU b)) : Int)
 else (↑(List.length (List.map encU a)) : Int)))
 [AV.v (Value.int IntKind.u64 0)]))),
 (20,
 goI
 (↑(List.length
 (List.replicate
 (Int.toNat
 (if true = true then
 if (↑(List.length (List.map encU a)) : Int) < (↑(List.length (List.map encU b)) : Int) then
 (↑(List.length (List.map encU b)) : Int)
 else (↑(List.length (List.map encU a)) : Int)
 else
 if (↑(List.length (List.map encU b)) : Int) < (↑(List.length (List.map encU a)) : Int) then
 (↑(List.length (List.map encU b)) : Int)
 else (↑(List.length (List.map encU a)) : Int)))
 [AV.v (Value.int IntKind.u64 0)])) :
 Int)),
 (21, goI 0)]
 [Row.arr 1
 ([] ++
 List.take
 (List.length
 (List.replicate
 (Int.toNat
 (if true = true then
 if (↑(List.length (List.map encU a)) : Int) < (↑(List.length (List.map encU b)) : Int) then
 (↑(List.length (List.map encU b)) : Int)
 else (↑(List.length (List.map encU a)) : Int)
 else
 if (↑(List.length (List.map encU b)) : Int) < (↑(List.length (List.map encU a)) : Int) then
 (↑(List.length (List.map encU b)) : Int)
 else (↑(List.length (List.map encU a)) : Int)))
 [AV.v (Value.int IntKind.u64 0)]))
 (List.map encU a) ++
 List.drop
 (0 +
 min (List.length (List.map encU a))
 (List.length
 (List.replicate
 (Int.toNat
 (if true = true then
 if
 (↑(List.length (List.map encU a)) : Int) <
 (↑(List.length (List.map encU b)) : Int) then
 (↑(List.length (List.map encU b)) : Int)
 else (↑(List.length (List.map encU a)) : Int)
 else
 if
 (↑(List.length (List.map encU b)) : Int) <
 (↑(List.length (List.map encU a)) : Int) then
 (↑(List.length (List.map encU b)) : Int)
 else (↑(List.length (List.map encU a)) : Int)))
 [AV.v (Value.int IntKind.u64 0)])))
 (List.replicate
 (Int.toNat
 (if true = true then
 if (↑(List.length (List.map encU a)) : Int) < (↑(List.length (List.map encU b)) : Int) then
 (↑(List.length (List.map encU b)) : Int)
 else (↑(List.length (List.map encU a)) : Int)
 else
 if (↑(List.length (List.map encU b)) : Int) < (↑(List.length (List.map encU a)) : Int) then
 (↑(List.length (List.map encU b)) : Int)
 else (↑(List.length (List.map encU a)) : Int)))
 [AV.v (Value.int IntKind.u64 0)]))])
 (Ex.exit 0, mkS 45 [(7, AV.os 0 0 (List.length x))] [Row.arr 1 (List.map encU x)]) ∧
 Wf Tryd.prog H 50 [AV.os 0 0 (List.length x)] [Row.arr 1 (List.map encU x)] =
 some (AV.os 0 0 k, [Row.arr 1 (List.map encU x)], []) ∧
 (AV.os 0 0 k, [Row.arr 1 (List.map encU x)], []) = r) := by kernel_rfl
theorem b79_4 (b : List Int) (x : List Int) (n : Int) (i : Nat) (r : Ex × St) : (turnT Tryd.prog H (FB79 0) L0 false (H 79) 0 (loopOf Tryd.prog 79 4)
 (mkS 45
 [(1, AV.sl (List.map encU b)), (2, AV.clo 89 []), (7, AV.os 0 0 (List.length x)), (20, goI n), (21, goI (↑i : Int))]
 [Row.arr 1 (List.map encU x)])
 r) = (TB (decide ((↑i : Int) < n))
 (TB (decide ((↑i : Int) < (↑(List.length (List.map encU b)) : Int)))
 ((0 ≤ (↑i : Int) ∧
 (List.map encU b)[i]? = some [AV.v (Value.int IntKind.u64 (rdI (rowAt (List.map encU b) i) 0))]) ∧
 (0 ≤ (↑i : Int) ∧ (↑i : Int) < (↑(List.length x) : Int) ∧ 0 + i < List.length (List.map encU x)) ∧
 cutAt 1 0 (List.map encU x)[0 + i]? =
 some [AV.v (Value.int IntKind.u64 (rdI (rowAt (List.map encU x) (0 + i)) 0))] ∧
 Wf Tryd.prog H 89
 [AV.v (Value.int IntKind.u64 (rdI (rowAt (List.map encU x) (0 + i)) 0)),
 AV.v (Value.int IntKind.u64 (rdI (rowAt (List.map encU b) i) 0))]
 [] =
 some
 (AV.v
 (Value.int IntKind.u64
 (U.orW (rdI (rowAt (List.map encU x) (0 + i)) 0) (rdI (rowAt (List.map encU b) i) 0))),
 [], []) ∧
 (0 ≤ (↑i : Int) ∧ (↑i : Int) < (↑(List.length x) : Int) ∧ 0 + i < List.length (List.map encU x)) ∧
 Option.map List.length (List.map encU x)[0 + i]? = some 1 ∧
 LoopTo Tryd.prog H (H 79) 0 (loopOf Tryd.prog 79 4)
 (mkS 45
 [(1, AV.sl (List.map encU b)), (2, AV.clo 89 []), (7, AV.os 0 0 (List.length x)), (20, goI n),
 (21, goI (IntKind.wrap IntKind.i64 ((↑i : Int) + 1)))]
 [Row.arr 1
 (List.set (List.map encU x) (0 + i)
 [AV.v
 (Value.int IntKind.u64
 (U.orW (rdI (rowAt (List.map encU x) (0 + i)) 0)
 (rdI (rowAt (List.map encU b) i) 0)))])])
 r)
 ((0 ≤ (↑i : Int) ∧ (↑i : Int) < (↑(List.length x) : Int) ∧ 0 + i < List.length (List.map encU x)) ∧
 cutAt 1 0 (List.map encU x)[0 + i]? =
 some [AV.v (Value.int IntKind.u64 (rdI (rowAt (List.map encU x) (0 + i)) 0))] ∧
 Wf Tryd.prog H 89
 [AV.v (Value.int IntKind.u64 (rdI (rowAt (List.map encU x) (0 + i)) 0)), AV.v (Value.int IntKind.u64 0)]
 [] =
 some (AV.v (Value.int IntKind.u64 (U.orW (rdI (rowAt (List.map encU x) (0 + i)) 0) 0)), [], []) ∧
 (0 ≤ (↑i : Int) ∧ (↑i : Int) < (↑(List.length x) : Int) ∧ 0 + i < List.length (List.map encU x)) ∧
 Option.map List.length (List.map encU x)[0 + i]? = some 1 ∧
 LoopTo Tryd.prog H (H 79) 0 (loopOf Tryd.prog 79 4)
 (mkS 45
 [(1, AV.sl (List.map encU b)), (2, AV.clo 89 []), (7, AV.os 0 0 (List.length x)), (20, goI n),
 (21, goI (IntKind.wrap IntKind.i64 ((↑i : Int) + 1)))]
 [Row.arr 1
 (List.set (List.map encU x) (0 + i)
 [AV.v (Value.int IntKind.u64 (U.orW (rdI (rowAt (List.map encU x) (0 + i)) 0) 0))])])
 r))
 ((Ex.exit 0, mkS 45 [(7, AV.os 0 0 (List.length x))] [Row.arr 1 (List.map encU x)]) = r)) := by kernel_rfl
theorem b74 (a : List Int) (b : List Int) (m : List Int) (r : AV × List Row × List Nat) : (runT Tryd.prog H (FB74 m 0) (LB74 m) false 74 [AV.sl [[AV.sl (List.map encU a)], [AV.sl (List.map encU b)]]] [] fun q =>
 q = r) = (LoopTo Tryd.prog H (H 74) 0 (loopOf Tryd.prog 74 3)
 (mkS 17
 [(3, AV.sl []), (6, AV.sl [[AV.sl (List.map encU a)], [AV.sl (List.map encU b)]]), (7, goI (↑2 : Int)),
 (8, goI 0)])
 (Ex.exit 0, mkS 17 [(3, AV.sl (List.map encU m))]) ∧
 (AV.sl (List.map encU m), [], []) = r) := by kernel_rfl
theorem b74_0 (a : List Int) (b : List Int) (o : List Int) (m : List Int) (k : Nat) (r : Ex × St) : (turnT Tryd.prog H (FB74 m k) L0 false (H 74) 0 (loopOf Tryd.prog 74 3)
 (mkS 17
 [(3, AV.sl (List.map encU o)), (6, AV.sl [[AV.sl (List.map encU a)], [AV.sl (List.map encU b)]]), (7, goI 2),
 (8, goI 0)])
 r) = ((iz 0 ≤ 0 ∧ some [AV.sl (List.map encU a)] = some [AV.sl (rdL [AV.sl (List.map encU a)] 0)]) ∧
 Wf Tryd.prog H 79 [AV.sl (List.map encU o), AV.sl (rdL [AV.sl (List.map encU a)] 0), AV.clo 89 []] [] =
 some (AV.os 0 0 k, [Row.arr 1 (List.map encU m)], []) ∧
 LoopTo Tryd.prog H (H 74) 0 (loopOf Tryd.prog 74 3)
 (mkS 17
 [(3, AV.sl (List.take k (List.drop 0 (List.map encU m)))),
 (6, AV.sl [[AV.sl (List.map encU a)], [AV.sl (List.map encU b)]]), (7, goI 2),
 (8, goI (IntKind.wrap IntKind.i64 (0 + 1)))])
 r) := by kernel_rfl
theorem b74_1 (a : List Int) (b : List Int) (o : List Int) (m : List Int) (k : Nat) (r : Ex × St) : (turnT Tryd.prog H (FB74 m k) L0 false (H 74) 0 (loopOf Tryd.prog 74 3)
 (mkS 17
 [(3, AV.sl (List.map encU o)), (6, AV.sl [[AV.sl (List.map encU a)], [AV.sl (List.map encU b)]]), (7, goI 2),
 (8, goI 1)])
 r) = ((iz 0 ≤ 1 ∧ some [AV.sl (List.map encU b)] = some [AV.sl (rdL [AV.sl (List.map encU b)] 0)]) ∧
 Wf Tryd.prog H 79 [AV.sl (List.map encU o), AV.sl (rdL [AV.sl (List.map encU b)] 0), AV.clo 89 []] [] =
 some (AV.os 0 0 k, [Row.arr 1 (List.map encU m)], []) ∧
 LoopTo Tryd.prog H (H 74) 0 (loopOf Tryd.prog 74 3)
 (mkS 17
 [(3, AV.sl (List.take k (List.drop 0 (List.map encU m)))),
 (6, AV.sl [[AV.sl (List.map encU a)], [AV.sl (List.map encU b)]]), (7, goI 2),
 (8, goI (IntKind.wrap IntKind.i64 (1 + 1)))])
 r) := by kernel_rfl
theorem b74_2 (a : List Int) (b : List Int) (o : List Int) (r : Ex × St) : (turnT Tryd.prog H (fun f args sto => CT.of (F0 f args sto)) L0 false (H 74) 0 (loopOf Tryd.prog 74 3)
 (mkS 17
 [(3, AV.sl (List.map encU o)), (6, AV.sl [[AV.sl (List.map encU a)], [AV.sl (List.map encU b)]]), (7, goI 2),
 (8, goI 2)])
 r) = ((Ex.exit 0, mkS 17 [(3, AV.sl (List.map encU o))]) = r) := by kernel_rfl
theorem b51 (a : List Int) (b : List Int) (s : Bool) (r : AV × List Row × List Nat) : (runT Tryd.prog H (fun f args sto => CT.of (F0 f args sto)) (LB51 s) false 51
 [AV.sl (List.map encU a), AV.sl (List.map encU b)] [] fun q => q = r) = (TB (!(↑(List.length (List.map encU a)) : Int) == (↑(List.length (List.map encU b)) : Int)) ((goB false, [], []) = r)
 (TB s
 (LoopTo Tryd.prog H (H 51) 0 (loopOf Tryd.prog 51 4)
 (mkS 26
 [(0, AV.sl (List.map encU a)), (1, AV.sl (List.map encU b)),
 (12, goI (↑(List.length (List.map encU a)) : Int)), (13, goI 0)])
 (Ex.exit 0, mkS 26 []) ∧
 (goB true, [], []) = r)
 (LoopTo Tryd.prog H (H 51) 0 (loopOf Tryd.prog 51 4)
 (mkS 26
 [(0, AV.sl (List.map encU a)), (1, AV.sl (List.map encU b)),
 (12, goI (↑(List.length (List.map encU a)) : Int)), (13, goI 0)])
 (Ex.ret, mkS 26 [(4, goB false)]) ∧
 (goB false, [], []) = r))) := by kernel_rfl
theorem b51_4 (a : List Int) (b : List Int) (n : Int) (i : Nat) (r : Ex × St) : (turnT Tryd.prog H (fun f args sto => CT.of (F0 f args sto)) L0 false (H 51) 0 (loopOf Tryd.prog 51 4)
 (mkS 26 [(0, AV.sl (List.map encU a)), (1, AV.sl (List.map encU b)), (12, goI n), (13, goI (↑i : Int))]) r) = (TB (decide ((↑i : Int) < n))
 ((0 ≤ (↑i : Int) ∧ (List.map encU a)[i]? = some [AV.v (Value.int IntKind.u64 (rdI (rowAt (List.map encU a) i) 0))]) ∧
 (0 ≤ (↑i : Int) ∧ (List.map encU b)[i]? = some [AV.v (Value.int IntKind.u64 (rdI (rowAt (List.map encU b) i) 0))]) ∧
 TB (!rdI (rowAt (List.map encU a) i) 0 == rdI (rowAt (List.map encU b) i) 0)
 ((Ex.ret, mkS 26 [(4, goB false)]) = r)
 (LoopTo Tryd.prog H (H 51) 0 (loopOf Tryd.prog 51 4)
 (mkS 26
 [(0, AV.sl (List.map encU a)), (1, AV.sl (List.map encU b)), (12, goI n),
 (13, goI (IntKind.wrap IntKind.i64 ((↑i : Int) + 1)))])
 r))
 ((Ex.exit 0, mkS 26 []) = r)) := by kernel_rfl
theorem b14s (a : List Int) (b : List Int) (r : AV × List Row × List Nat) : (runT Tryd.prog H FB14s L0 false 14 [AV.sl (List.map encU a), AV.sl (List.map encU b)] [] fun q => q = r) = (Wf Tryd.prog H 50 [AV.sl (List.map encU a)] [] = some (AV.sl (U.neatR (List.map encU a)), [], []) ∧
 Wf Tryd.prog H 50 [AV.sl (List.map encU b)] [] = some (AV.sl (U.neatR (List.map encU b)), [], []) ∧
 Wf Tryd.prog H 51 [AV.sl (U.neatR (List.map encU a)), AV.sl (U.neatR (List.map encU b))] [] =
 some (goB (U.sameR (U.neatR (List.map encU a)) (U.neatR (List.map encU b))), [], []) ∧
 (goB (U.sameR (U.neatR (List.map encU a)) (U.neatR (List.map encU b))), [], []) = r) := by kernel_rfl
def wd (l : List Int) (i : Nat) : Int := l.getD i 0
theorem rowU {l : List Int} {i : Nat} (h : i < l.length) : rdI (rowAt (l.map encU) i) 0 = wd l i ∧ (l.map encU)[i]? = some [goU (wd l i)] := by
  have e1 : rowAt (l.map encU) i = encU (l.getD i default) := rowAt_map h
  have e2 : (l.map encU)[i]? = some (encU (l.getD i default)) := rows_map h
  rw [e1, e2]; exact ⟨rfl, rfl⟩
theorem set_mapU (W : List Int) (i : Nat) (v : Int) : (W.map encU).set i [goU v] = (W.set i v).map encU := set_map encU W i v
theorem decU_map (l : List Int) : U.decU (l.map encU) = l := by
  unfold U.decU
  rw [List.map_map]
  exact (List.map_congr_left (fun x _ => rfl)).trans (List.map_id l)
theorem neatR_map (l : List Int) : U.neatR (l.map encU) = (Bit.neatL l).map encU := by unfold U.neatR; rw [decU_map]
theorem rowsOkU (l : List Int) : rowsOk 1 (l.map encU) = true := rowsOk_of (enc := encU) (s := 1) (fun _ => rfl) l
theorem take_snoc (l : List Int) (n : Nat) (h : n < l.length) : l.take (n + 1) = l.take n ++ [wd l n] := by
  rw [List.take_add_one, List.getElem?_eq_getElem h]
  unfold wd
  rw [List.getD_eq_getElem?_getD, List.getElem?_eq_getElem h]; rfl
theorem neat_take (l : List Int) : l.take (Bit.neatL l).length = Bit.neatL l := by
  obtain ⟨m, hm⟩ := Bit.neatL_prefix l
  have h := List.take_left (l₁ := Bit.neatL l) (l₂ := List.replicate m 0)
  rwa [← hm] at h
theorem loopb50 (l : List Int) (hl : l.length < 1000000) : ∀ n, n ≤ l.length →
    LoopTo Tryd.prog H (H 50) 1 (loopOf Tryd.prog 50 1) (mkS 21 [(0, .os 0 0 n)] [.arr 1 (l.map encU)]) (.exit 0, mkS 21 [(0, .os 0 0 (Bit.neatL (l.take n)).length)] [.arr 1 (l.map encU)])
  | 0, _ => by
    refine turnK (b50_1 l 0 _) ?_
    rw [decide_eq_false (by omega)]; exact rfl
  | n + 1, hn => by
    have ih := loopb50 l hl n (by omega)
    have ew : IntKind.i64.wrap (((n + 1 : Nat) : Int) - 1) = (n : Int) := by rw [wrap64 (by omega) (by omega)]; omega
    obtain ⟨r1, r2⟩ := rowU (l := l) (i := n) (by omega)
    have elen : (l.map encU).length = l.length := List.length_map _
    refine turnK (b50_1 l (n + 1) _) ?_
    rw [ew, decide_eq_true (by omega), Nat.zero_add, Int.toNat_natCast, r1, r2, take_snoc l n (by omega)]
    refine ⟨⟨by omega, by omega, by omega⟩, rfl, ?_⟩
    by_cases h0 : wd l n = 0
    · rw [show (wd l n == 0) = true by simp [h0], h0, Bit.neatL_snoc_zero]
      refine ⟨⟨by omega, by omega⟩, ?_⟩
      rw [Nat.sub_zero]; exact ih
    · rw [show (wd l n == 0) = false by simp [h0], Bit.neatL_snoc_ne _ _ h0]
      rw [List.length_append, List.length_take, Nat.min_eq_left (by omega)]
      exact rfl
theorem wb50 (l : List Int) (hl : l.length < 1000000) : Wf Tryd.prog H 50 [.os 0 0 l.length] [.arr 1 (l.map encU)] = some (.os 0 0 (Bit.neatL l).length, [.arr 1 (l.map encU)], []) := by
  have h := loopb50 l hl l.length (Nat.le_refl _)
  rw [List.take_length] at h
  exact runK (b50 l l.length (Bit.neatL l).length _) ⟨h, rfl⟩
theorem loopb50r (l : List Int) (hl : l.length < 1000000) : ∀ n, n ≤ l.length →
    LoopTo Tryd.prog H (H 50) 0 (loopOf Tryd.prog 50 1) (mkS 21 [(0, .sl ((l.take n).map encU))]) (.exit 0, mkS 21 [(0, .sl ((Bit.neatL (l.take n)).map encU))])
  | 0, _ => by
    refine turnK (b50r_1 (l.take 0) _) ?_
    rw [List.take_zero, List.map_nil, List.length_nil, decide_eq_false (by omega)]; exact rfl
  | n + 1, hn => by
    have ih := loopb50r l hl n (by omega)
    have etl : (l.take (n + 1)).length = n + 1 := by rw [List.length_take]; omega
    have elen : ((l.take (n + 1)).map encU).length = n + 1 := by rw [List.length_map, etl]
    have ew : IntKind.i64.wrap (((n + 1 : Nat) : Int) - 1) = (n : Int) := by rw [wrap64 (by omega) (by omega)]; omega
    obtain ⟨r1, r2⟩ := rowU (l := l.take (n + 1)) (i := n) (by omega)
    have ewd : wd (l.take (n + 1)) n = wd l n := by
      unfold wd
      rw [List.getD_eq_getElem?_getD, List.getD_eq_getElem?_getD, List.getElem?_take, if_pos (by omega)]
    rw [ewd] at r1 r2
    refine turnK (b50r_1 (l.take (n + 1)) _) ?_
    rw [elen, ew, decide_eq_true (by omega), Int.toNat_natCast, r1, r2]
    refine ⟨⟨by omega, rfl⟩, ?_⟩
    by_cases h0 : wd l n = 0
    · rw [show (wd l n == 0) = true by simp [h0]]
      refine ⟨rowsOkU _, ⟨by omega, by omega⟩, ?_⟩
      rw [List.drop_zero, ← List.map_take, List.take_take, Nat.min_eq_left (by omega), take_snoc l n (by omega), h0, Bit.neatL_snoc_zero]
      exact ih
    · rw [show (wd l n == 0) = false by simp [h0], take_snoc l n (by omega), Bit.neatL_snoc_ne _ _ h0]
      exact rfl
theorem wb50r (l : List Int) (hl : l.length < 1000000) : Wf Tryd.prog H 50 [.sl (l.map encU)] [] = some (.sl ((Bit.neatL l).map encU), [], []) := by
  have h := loopb50r l hl l.length (Nat.le_refl _)
  rw [List.take_length] at h
  exact runK (b50r l (Bit.neatL l) _) ⟨h, rfl⟩
theorem iz64 : iz 64 ≠ 0 := by decide
theorem wb42 {l : List Int} (hw : Bit.Wd l) (n : Int) (h1 : n < 9223372036854775808) (hl : l.length < 1000000) : Wf Tryd.prog H 42 [.sl (l.map encU), goI n] [] = some (goB (Bit.hasB l n), [], []) := by
  have elen : (l.map encU).length = l.length := List.length_map _
  refine runK (b42 l n _) ?_
  by_cases h0 : n ≥ 0
  · have e1 : IntKind.i64.wrap (Int.tdiv n 64) = ((n.toNat / 64 : Nat) : Int) := by
      rw [Int.tdiv_eq_ediv_of_nonneg h0, wrap64 (by omega) (by omega)]; omega
    have e2 : Int.tmod n 64 = ((n.toNat % 64 : Nat) : Int) := by rw [Int.tmod_eq_emod_of_nonneg h0]; omega
    rw [decide_eq_true h0, elen, e1, e2, Int.toNat_natCast]
    refine ⟨iz64, ?_⟩
    by_cases hb : n.toNat / 64 < l.length
    · obtain ⟨r1, r2⟩ := rowU hb
      rw [decide_eq_true (by omega), r1, r2]
      refine ⟨iz64, ⟨by omega, rfl⟩, iz64, by omega, ?_⟩
      have h3 := Bit.has_bit (x := wd l (n.toNat / 64)) (j := ((n.toNat % 64 : Nat) : Int)) (hw.getD _) (by omega) (by omega)
      have h4 : (bitI BinOp.and IntKind.u64 (shrI IntKind.u64 (wd l (n.toNat / 64)) ((n.toNat % 64 : Nat) : Int)) 1 == 1) = Bit.hasB l n := by
        refine h3.trans ?_
        unfold Bit.hasB Bit.tb
        rw [decide_eq_true (show 0 ≤ n from h0), Bool.true_and, Int.toNat_natCast]
        rfl
      rw [h4]
    · rw [decide_eq_false (by omega)]
      have : Bit.hasB l n = false := by
        cases h : Bit.hasB l n with
        | false => rfl
        | true => have := Bit.hasB_lt h; omega
      rw [this]; exact rfl
  · rw [decide_eq_false h0]
    have : Bit.hasB l n = false := by unfold Bit.hasB; rw [decide_eq_false (by omega)]; rfl
    rw [this]; exact rfl
theorem puts_len (ns : List Int) : ∀ l : List Int, l.length ≤ 1000 → (ns.foldl Bit.putL l).length ≤ 1000 := by
  induction ns with
  | nil => intro l h; exact h
  | cons n ns ih =>
    intro l h
    have := Bit.putL_length l n
    exact ih _ (by omega)
theorem loopb16 (l : List Int) (hl : l.length < 1000000) : ∀ (d i : Nat) (x : List Int), i + d = l.length → Bit.Wd x → x.length ≤ 1000 →
    LoopTo Tryd.prog H (H 16) 0 (loopOf Tryd.prog 16 3) (mkS 46 [(0, .os 0 0 x.length), (10, .sl (l.map encI)), (11, goI l.length), (12, goI i)] [.arr 1 (x.map encU)])
      (.exit 0, mkS 46 [(0, .os 0 0 ((l.drop i).foldl Bit.putL x).length)] [.arr 1 (((l.drop i).foldl Bit.putL x).map encU)])
  | 0, i, x, hd, hw, hx => by
    refine turnK (b16_3 l x l.length i _) ?_
    rw [decide_eq_false (by omega), List.drop_of_length_le (by omega)]; exact rfl
  | d + 1, i, x, hd, hw, hx => by
    have hi : i < l.length := by omega
    have ed : l.drop i = U.nt l i :: l.drop (i + 1) := drop_cons' l hi
    have e1 : rdI (rowAt (l.map encI) i) 0 = U.nt l i := by rw [rowI hi]; rfl
    have hput := Bit.putL_length x (U.nt l i)
    have ih := loopb16 l hl d (i + 1) (Bit.putL x (U.nt l i)) (by omega) (Bit.putL_Wd hw _) (by omega)
    rw [ed, List.foldl_cons]
    refine turnK (b16_3 l x l.length i _) ?_
    rw [decide_eq_true (by omega), e1, getI hi, wrapS hi hl]
    refine ⟨⟨by omega, rfl⟩, ?_⟩
    generalize U.nt l i = n at *
    by_cases h0 : n < 0
    · rw [decide_eq_true h0]
      have : Bit.putL x n = x := by unfold Bit.putL; rw [if_neg (by omega)]
      rw [this] at ih ⊢
      exact ih
    by_cases h1 : n ≥ 4096
    · rw [decide_eq_false h0, decide_eq_true h1]
      have : Bit.putL x n = x := by unfold Bit.putL; rw [if_neg (by omega)]
      rw [this] at ih ⊢
      exact ih
    rw [decide_eq_false h0, decide_eq_false h1]
    have eq : IntKind.i64.wrap (Int.tdiv n 64) = ((n.toNat / 64 : Nat) : Int) := by
      rw [Int.tdiv_eq_ediv_of_nonneg (by omega), wrap64 (by omega) (by omega)]; omega
    have em : Int.tmod n 64 = ((n.toNat % 64 : Nat) : Int) := by rw [Int.tmod_eq_emod_of_nonneg (by omega)]; omega
    have emore : IntKind.i64.wrap (IntKind.i64.wrap (((n.toNat / 64 : Nat) : Int) + 1) - (x.length : Int)) = ((n.toNat / 64 : Nat) : Int) + 1 - x.length := by
      rw [wrap64 (n := ((n.toNat / 64 : Nat) : Int) + 1) (by omega) (by omega), wrap64 (by omega) (by omega)]
    have ebit : ∀ y : List Int, Bit.Wd y → bitI BinOp.or IntKind.u64 (wd y (n.toNat / 64)) (shlI IntKind.u64 1 ((n.toNat % 64 : Nat) : Int)) = (((y.getD (n.toNat / 64) 0).toNat ||| 2 ^ (n.toNat % 64) : Nat) : Int) := fun y hy => by
      have e5 : shlI IntKind.u64 1 ((n.toNat % 64 : Nat) : Int) = ((2 ^ (n.toNat % 64) : Nat) : Int) := by
        have := Bit.shl_one (j := ((n.toNat % 64 : Nat) : Int)) (by omega) (by omega)
        rw [Int.toNat_natCast] at this
        exact this
      rw [e5]
      have hp := Bit.pow_lt (j := n.toNat % 64) (by omega)
      have := Bit.bits_or (x := wd y (n.toNat / 64)) (y := ((2 ^ (n.toNat % 64) : Nat) : Int)) (hy.getD _) ⟨Int.natCast_nonneg _, Bit.lt_cast hp⟩
      rw [Int.toNat_natCast] at this
      exact this
    rw [eq, em, emore, Int.toNat_natCast, Nat.zero_add]
    refine ⟨iz64, ?_⟩
    have hpl : Bit.putL x n = Bit.orL (Bit.padL x (n.toNat / 64)) n.toNat := by unfold Bit.putL; rw [if_pos (by omega)]
    rw [hpl] at ih ⊢
    have hol := Bit.orL_length (Bit.padL x (n.toNat / 64)) n.toNat
    by_cases hm : ((n.toNat / 64 : Nat) : Int) + 1 - x.length > 0
    · have ek : (((n.toNat / 64 : Nat) : Int) + 1 - x.length).toNat = n.toNat / 64 + 1 - x.length := by omega
      have epad : x.map encU ++ List.replicate (n.toNat / 64 + 1 - x.length) [AV.v (.int .u64 0)] = (Bit.padL x (n.toNat / 64)).map encU := by
        unfold Bit.padL; rw [List.map_append, List.map_replicate]; rfl
      have hpadl : (Bit.padL x (n.toNat / 64)).length = x.length + (n.toNat / 64 + 1 - x.length) := by unfold Bit.padL; simp
      obtain ⟨r1, r2⟩ := rowU (l := Bit.padL x (n.toNat / 64)) (i := n.toNat / 64) (by omega)
      rw [decide_eq_true hm, ek, epad, r1, r2, ebit _ (Bit.padL_Wd hw _)]
      have eset : ((Bit.padL x (n.toNat / 64)).map encU).set (n.toNat / 64) [AV.v (.int .u64 ((((Bit.padL x (n.toNat / 64)).getD (n.toNat / 64) 0).toNat ||| 2 ^ (n.toNat % 64) : Nat) : Int))] = (Bit.orL (Bit.padL x (n.toNat / 64)) n.toNat).map encU := set_mapU _ _ _
      rw [eset]
      rw [hol, hpadl] at ih
      have hin : 0 ≤ ((n.toNat / 64 : Nat) : Int) ∧ ((n.toNat / 64 : Nat) : Int) < ((x.length + (n.toNat / 64 + 1 - x.length) : Nat) : Int) ∧ n.toNat / 64 < ((Bit.padL x (n.toNat / 64)).map encU).length := ⟨by omega, by omega, by rw [List.length_map]; omega⟩
      exact ⟨⟨by rw [List.length_map], by omega, by omega⟩, iz64, hin, rfl, iz64, by omega, hin, rfl, ih⟩
    · have epad : Bit.padL x (n.toNat / 64) = x := by
        unfold Bit.padL
        rw [show n.toNat / 64 + 1 - x.length = 0 by omega]; simp
      rw [epad] at ih hol ⊢
      obtain ⟨r1, r2⟩ := rowU (l := x) (i := n.toNat / 64) (by omega)
      rw [decide_eq_false hm, r1, r2, ebit _ hw]
      have eset : (x.map encU).set (n.toNat / 64) [AV.v (.int .u64 (((x.getD (n.toNat / 64) 0).toNat ||| 2 ^ (n.toNat % 64) : Nat) : Int))] = (Bit.orL x n.toNat).map encU := set_mapU _ _ _
      rw [eset]
      rw [hol] at ih
      have hin : 0 ≤ ((n.toNat / 64 : Nat) : Int) ∧ ((n.toNat / 64 : Nat) : Int) < (x.length : Int) ∧ n.toNat / 64 < (x.map encU).length := ⟨by omega, by omega, by rw [List.length_map]; omega⟩
      exact ⟨iz64, hin, rfl, iz64, by omega, hin, rfl, ih⟩
theorem wb49 (s : List Int) (hs : s.length < 1000000) : Wf Tryd.prog H 49 [.sl (s.map encU)] [] = some (.os 0 0 (s.map encU).length, [.arr 1 (s.map encU)], []) :=
  Wf_prim (p := cloneP 1) (by rfl) (by
    show (if rowsOk 1 (s.map encU) = true ∧ (s.map encU).length ≤ LIM then some (AV.os 0 0 (s.map encU).length, [Row.arr 1 (s.map encU)], []) else none) = _
    rw [if_pos ⟨rowsOkU s, by rw [List.length_map]; unfold LIM; omega⟩])
theorem wb16 (s l : List Int) (hw : Bit.Wd s) (hs : s.length ≤ 1000) (hl : l.length < 1000000) : Wf Tryd.prog H 16 [.sl (s.map encU), .sl (l.map encI)] [] = some (.os 0 0 (U.withL s l).length, [.arr 1 ((l.foldl Bit.putL s).map encU)], []) := by
  have h := loopb16 l hl l.length 0 s (by omega) hw hs
  rw [List.drop_zero] at h
  have hx := puts_len l s hs
  refine runK (b16 s l (l.foldl Bit.putL s) (U.withL s l).length _) ?_
  have e1 : (s.map encU).length = s.length := List.length_map _
  have e2 : (l.map encI).length = l.length := List.length_map _
  have hc := wb49 s (by omega)
  rw [e1] at hc ⊢
  rw [e2]
  exact ⟨hc, h, wb50 _ (by omega), rfl⟩
theorem drops_len (ns : List Int) : ∀ l : List Int, (ns.foldl Bit.dropL l).length = l.length := by
  induction ns with
  | nil => intro l; rfl
  | cons n ns ih => intro l; rw [List.foldl_cons, ih, Bit.dropL_length]
theorem loopb13 (l : List Int) (hl : l.length < 1000000) (hr : ∀ n ∈ l, n < 9223372036854775808) : ∀ (d i : Nat) (x : List Int), i + d = l.length → Bit.Wd x → x.length ≤ 1000 →
    LoopTo Tryd.prog H (H 13) 0 (loopOf Tryd.prog 13 3) (mkS 31 [(0, .os 0 0 x.length), (9, .sl (l.map encI)), (10, goI l.length), (11, goI i)] [.arr 1 (x.map encU)])
      (.exit 0, mkS 31 [(0, .os 0 0 ((l.drop i).foldl Bit.dropL x).length)] [.arr 1 (((l.drop i).foldl Bit.dropL x).map encU)])
  | 0, i, x, hd, hw, hx => by
    have e0 : l.drop i = [] := List.drop_of_length_le (by omega)
    rw [e0]
    refine turnK (b13_3 l x l.length i false _) ?_
    rw [decide_eq_false (by omega)]; exact rfl
  | d + 1, i, x, hd, hw, hx => by
    have hi : i < l.length := by omega
    have ed : l.drop i = U.nt l i :: l.drop (i + 1) := drop_cons' l hi
    have e1 : rdI (rowAt (l.map encI) i) 0 = U.nt l i := by rw [rowI hi]; rfl
    have hn := hr (U.nt l i) (getD_mem hi)
    have hdl := Bit.dropL_length x (U.nt l i)
    have ih := loopb13 l hl hr d (i + 1) (Bit.dropL x (U.nt l i)) (by omega) (Bit.dropL_Wd hw _) (by omega)
    rw [ed, List.foldl_cons]
    have h42 := wb42 hw (U.nt l i) hn (by omega)
    refine turnK (b13_3 l x l.length i (Bit.hasB x (U.nt l i)) _) ?_
    rw [decide_eq_true (by omega), e1, getI hi, wrapS hi hl, take_map]
    refine ⟨⟨by omega, rfl⟩, h42, ?_⟩
    generalize U.nt l i = n at *
    cases hb : Bit.hasB x n with
    | false =>
      have : Bit.dropL x n = x := by unfold Bit.dropL; rw [if_neg (by rw [hb]; simp)]
      rw [this] at ih ⊢
      exact ih
    | true =>
      obtain ⟨h0, hlt⟩ := Bit.hasB_lt hb
      have eq : IntKind.i64.wrap (Int.tdiv n 64) = ((n.toNat / 64 : Nat) : Int) := by
        rw [Int.tdiv_eq_ediv_of_nonneg (by omega), wrap64 (by omega) (by omega)]; omega
      have em : Int.tmod n 64 = ((n.toNat % 64 : Nat) : Int) := by rw [Int.tmod_eq_emod_of_nonneg (by omega)]; omega
      have e5 : shlI IntKind.u64 1 ((n.toNat % 64 : Nat) : Int) = ((2 ^ (n.toNat % 64) : Nat) : Int) := by
        have := Bit.shl_one (j := ((n.toNat % 64 : Nat) : Int)) (by omega) (by omega)
        rw [Int.toNat_natCast] at this
        exact this
      obtain ⟨r1, r2⟩ := rowU (l := x) (i := n.toNat / 64) hlt
      rw [eq, em, Int.toNat_natCast, Nat.zero_add, r1, r2, e5]
      have hdr : Bit.dropL x n = x.set (n.toNat / 64) (Bit.bitsU .andNot (x.getD (n.toNat / 64) 0) ((2 ^ (n.toNat % 64) : Nat) : Int)) := by unfold Bit.dropL; rw [if_pos hb]
      have eset : (x.map encU).set (n.toNat / 64) [AV.v (.int .u64 (bitI BinOp.andNot IntKind.u64 (wd x (n.toNat / 64)) ((2 ^ (n.toNat % 64) : Nat) : Int)))] = (Bit.dropL x n).map encU := by rw [hdr]; exact set_mapU _ _ _
      rw [eset]
      rw [hdl] at ih
      have hin : 0 ≤ ((n.toNat / 64 : Nat) : Int) ∧ ((n.toNat / 64 : Nat) : Int) < (x.length : Int) ∧ n.toNat / 64 < (x.map encU).length := ⟨by omega, by omega, by rw [List.length_map]; omega⟩
      exact ⟨iz64, hin, rfl, iz64, by omega, hin, rfl, ih⟩
theorem wb13b (s l : List Int) (hw : Bit.Wd s) (hs : s.length ≤ 1000) (hl : l.length < 1000000) (hr : ∀ n ∈ l, n < 9223372036854775808) : Wf Tryd.prog H 13 [.sl (s.map encU), .sl (l.map encI)] [] = some (.os 0 0 (U.withoutL s l).length, [.arr 1 ((l.foldl Bit.dropL s).map encU)], []) := by
  have h := loopb13 l hl hr l.length 0 s (by omega) hw hs
  rw [List.drop_zero] at h
  have hx := drops_len l s
  refine runK (b13 s l (l.foldl Bit.dropL s) (U.withoutL s l).length _) ?_
  have e1 : (s.map encU).length = s.length := List.length_map _
  have e2 : (l.map encI).length = l.length := List.length_map _
  have hc := wb49 s (by omega)
  rw [e1] at hc ⊢
  rw [e2]
  exact ⟨hc, h, wb50 _ (by omega), rfl⟩
theorem wb89 (a b : Int) : Wf Tryd.prog H 89 [goU a, goU b] [] = some (goU (U.orW a b), [], []) := runK (b89 a b _) rfl
theorem loopb79 (b : List Int) (N : Nat) (hN : N < 1000000) : ∀ (d i : Nat) (x : List Int), i + d = N → x.length = N →
    ∃ x', LoopTo Tryd.prog H (H 79) 0 (loopOf Tryd.prog 79 4) (mkS 45 [(1, .sl (b.map encU)), (2, .clo 89 []), (7, .os 0 0 x.length), (20, goI N), (21, goI i)] [.arr 1 (x.map encU)])
      (.exit 0, mkS 45 [(7, .os 0 0 x'.length)] [.arr 1 (x'.map encU)]) ∧ x'.length = N ∧ ∀ j, j < N → wd x' j = if i ≤ j then Bit.orI (wd x j) (wd b j) else wd x j
  | 0, i, x, hd, hx => by
    refine ⟨x, turnK (b79_4 b x N i _) ?_, hx, fun j hj => by rw [if_neg (by omega)]⟩
    rw [decide_eq_false (by omega)]; exact rfl
  | d + 1, i, x, hd, hx => by
    have hi : i < x.length := by omega
    obtain ⟨r1, r2⟩ := rowU hi
    have hin : 0 ≤ (i : Int) ∧ (i : Int) < (x.length : Int) ∧ i < (x.map encU).length := ⟨by omega, by omega, by rw [List.length_map]; omega⟩
    obtain ⟨x', h1, h2, h3⟩ := loopb79 b N hN d (i + 1) (x.set i (Bit.orI (wd x i) (wd b i))) (by omega) (by rw [List.length_set]; exact hx)
    have hset : ∀ j, wd (x.set i (Bit.orI (wd x i) (wd b i))) j = if j = i then Bit.orI (wd x i) (wd b i) else wd x j := fun j => getD_set x i j _ hi
    refine ⟨x', turnK (b79_4 b x N i _) ?_, h2, fun j hj => ?_⟩
    · have elen : (b.map encU).length = b.length := List.length_map _
      rw [List.length_set] at h1
      rw [decide_eq_true (by omega), Nat.zero_add, r1, r2, elen, wrapS (show i < N by omega) hN]
      by_cases hb : i < b.length
      · obtain ⟨s1, s2⟩ := rowU hb
        rw [decide_eq_true (by omega), s1, s2]
        refine ⟨⟨by omega, rfl⟩, hin, rfl, wb89 _ _, hin, rfl, ?_⟩
        have e5 : (x.map encU).set i [AV.v (.int .u64 (U.orW (wd x i) (wd b i)))] = (x.set i (Bit.orI (wd x i) (wd b i))).map encU := set_mapU _ _ _
        rw [e5]
        exact h1
      · have hz : wd b i = 0 := by unfold wd; rw [List.getD_eq_getElem?_getD, List.getElem?_eq_none (by omega)]; rfl
        rw [hz] at h1
        rw [decide_eq_false (by omega)]
        refine ⟨hin, rfl, wb89 _ _, hin, rfl, ?_⟩
        have e5 : (x.map encU).set i [AV.v (.int .u64 (U.orW (wd x i) 0))] = (x.set i (Bit.orI (wd x i) 0)).map encU := set_mapU _ _ _
        rw [e5]
        exact h1
    · rw [h3 j hj, hset j]
      by_cases e : j = i
      · subst e; rw [if_neg (by omega), if_pos rfl, if_pos (Nat.le_refl _)]
      · rw [if_neg e]
        by_cases e2 : i ≤ j
        · rw [if_pos (by omega), if_pos e2]
        · rw [if_neg (by omega), if_neg e2]
theorem wd_ext {a b : List Int} (hl : a.length = b.length) (h : ∀ i, i < a.length → wd a i = wd b i) : a = b := by
  apply List.ext_getElem hl
  intro i h1 h2
  have := h i h1
  unfold wd at this
  rw [List.getD_eq_getElem?_getD, List.getD_eq_getElem?_getD, List.getElem?_eq_getElem h1, List.getElem?_eq_getElem h2] at this
  exact this
theorem wb79 (a b : List Int) (ha : a.length ≤ 1000) (hb : b.length ≤ 1000) : Wf Tryd.prog H 79 [.sl (a.map encU), .sl (b.map encU), .clo 89 []] [] = some (.os 0 0 (Bit.opL Bit.orI a b).length, [.arr 1 ((Bit.zipL Bit.orI a b).map encU)], []) := by
  have e1 : (a.map encU).length = a.length := List.length_map _
  have e2 : (b.map encU).length = b.length := List.length_map _
  have ez := Bit.zipL_length Bit.orI a b
  obtain ⟨x', h1, h2, h3⟩ := loopb79 b (max a.length b.length) (by omega) (max a.length b.length) 0 (a ++ List.replicate (max a.length b.length - a.length) 0) (by omega) (by simp; omega)
  have hx' : x' = Bit.zipL Bit.orI a b := wd_ext (by rw [h2, ez]) (fun i hi => by
    rw [h3 i (by omega), if_pos (Nat.zero_le _)]
    have hz := Bit.zipL_getD Bit.orI (by decide) a b i
    refine Eq.trans ?_ hz.symm
    unfold wd
    congr 1
    rw [List.getD_eq_getElem?_getD, List.getD_eq_getElem?_getD, List.getElem?_append]
    split
    · rfl
    · rw [List.getElem?_replicate, List.getElem?_eq_none (by omega)]
      split <;> rfl)
  subst hx'
  refine runK (b79 a b (Bit.zipL Bit.orI a b) (Bit.opL Bit.orI a b).length _) ?_
  have emax : (if true = true then if ((a.length : Nat) : Int) < (b.length : Int) then (b.length : Int) else (a.length : Int) else if (b.length : Int) < (a.length : Int) then (b.length : Int) else (a.length : Int)) = ((max a.length b.length : Nat) : Int) := by
    rw [if_pos rfl]
    split <;> omega
  rw [e1, e2, emax, Int.toNat_natCast, List.length_replicate]
  have erow : [] ++ List.take (max a.length b.length) (a.map encU) ++ List.drop (0 + min a.length (max a.length b.length)) (List.replicate (max a.length b.length) [AV.v (.int .u64 0)]) = (a ++ List.replicate (max a.length b.length - a.length) 0).map encU := by
    rw [List.nil_append, List.take_of_length_le (by rw [List.length_map]; omega), Nat.min_eq_left (by omega), Nat.zero_add, List.map_append, List.map_replicate, List.drop_replicate]
    rfl
  rw [erow]
  have hlen9 : (a ++ List.replicate (max a.length b.length - a.length) (0 : Int)).length = max a.length b.length := by rw [List.length_append, List.length_replicate]; omega
  rw [hlen9] at h1
  exact ⟨⟨by omega, by omega, by omega⟩, rowsOkU a, h1, wb50 _ (by omega), rfl⟩
theorem opL_take (a b : List Int) : (Bit.zipL Bit.orI a b).take (Bit.opL Bit.orI a b).length = Bit.opL Bit.orI a b := neat_take _
theorem take_mapU (l : List Int) (k : Nat) : List.take k (List.drop 0 (l.map encU)) = (l.take k).map encU := by rw [List.drop_zero, List.map_take]
theorem wb74 (a b : List Int) (ha : a.length ≤ 1000) (hb : b.length ≤ 1000) : Wf Tryd.prog H 74 [.sl [[.sl (a.map encU)], [.sl (b.map encU)]]] [] = some (.sl ((Bit.joinL [a, b] []).map encU), [], []) := by
  have h0 := wb79 [] a (by simp) ha
  have hl1 := Bit.opL_length Bit.orI [] a
  have h1 := wb79 (Bit.opL Bit.orI [] a) b (by rw [List.length_nil] at hl1; omega) hb
  refine runK (b74 a b (Bit.joinL [a, b] []) _) ⟨?_, rfl⟩
  refine turnK (b74_0 a b [] (Bit.zipL Bit.orI [] a) (Bit.opL Bit.orI [] a).length _) ⟨⟨by decide, rfl⟩, h0, ?_⟩
  rw [take_mapU, opL_take]
  refine turnK (b74_1 a b (Bit.opL Bit.orI [] a) (Bit.zipL Bit.orI (Bit.opL Bit.orI [] a) b) (Bit.opL Bit.orI (Bit.opL Bit.orI [] a) b).length _) ⟨⟨by decide, rfl⟩, h1, ?_⟩
  rw [take_mapU, opL_take]
  exact turnK (b74_2 a b _ _) rfl
theorem loopb51 (a b : List Int) (hab : a.length = b.length) (hl : a.length < 1000000) : ∀ (d i : Nat), i + d = a.length →
    LoopTo Tryd.prog H (H 51) 0 (loopOf Tryd.prog 51 4) (mkS 26 [(0, .sl (a.map encU)), (1, .sl (b.map encU)), (12, goI a.length), (13, goI i)])
      (if decide (a.drop i = b.drop i) then (.exit 0, mkS 26 []) else (.ret, mkS 26 [(4, goB false)]))
  | 0, i, hd => by
    refine turnK (b51_4 a b a.length i _) ?_
    rw [decide_eq_false (by omega), List.drop_of_length_le (by omega), List.drop_of_length_le (by omega)]; exact rfl
  | d + 1, i, hd => by
    have hi : i < a.length := by omega
    have ih := loopb51 a b hab hl d (i + 1) (by omega)
    obtain ⟨r1, r2⟩ := rowU hi
    obtain ⟨s1, s2⟩ := rowU (l := b) (i := i) (by omega)
    have ea : a.drop i = wd a i :: a.drop (i + 1) := drop_cons' a hi
    have eb : b.drop i = wd b i :: b.drop (i + 1) := drop_cons' b (by omega)
    refine turnK (b51_4 a b a.length i _) ?_
    rw [decide_eq_true (by omega), r1, r2, s1, s2, wrapS hi hl, ea, eb]
    refine ⟨⟨by omega, rfl⟩, ⟨by omega, rfl⟩, ?_⟩
    by_cases h : wd a i = wd b i
    · rw [show (!(wd a i == wd b i)) = false by simp [h], h]
      have e9 : decide (wd b i :: a.drop (i + 1) = wd b i :: b.drop (i + 1)) = decide (a.drop (i + 1) = b.drop (i + 1)) := by
        rw [Bool.eq_iff_iff]; simp
      rw [e9]
      exact ih
    · rw [show (!(wd a i == wd b i)) = true by simp [h]]
      have e9 : decide (wd a i :: a.drop (i + 1) = wd b i :: b.drop (i + 1)) = false := by
        simp [h]
      rw [e9]
      exact rfl
theorem wb51 (a b : List Int) (hl : a.length < 1000000) : Wf Tryd.prog H 51 [.sl (a.map encU), .sl (b.map encU)] [] = some (goB (decide (a = b)), [], []) := by
  refine runK (b51 a b (decide (a = b)) _) ?_
  have e1 : (a.map encU).length = a.length := List.length_map _
  have e2 : (b.map encU).length = b.length := List.length_map _
  rw [e1, e2]
  by_cases hab : a.length = b.length
  · rw [show (!((a.length : Int) == (b.length : Int))) = false by simp [hab]]
    have h := loopb51 a b hab hl a.length 0 (by omega)
    rw [List.drop_zero, List.drop_zero] at h
    cases hd : decide (a = b) with
    | true => rw [hd] at h; exact ⟨h, rfl⟩
    | false => rw [hd] at h; exact ⟨h, rfl⟩
  · rw [show (!((a.length : Int) == (b.length : Int))) = true by simp; omega]
    have : decide (a = b) = false := decide_eq_false (fun e => hab (by rw [e]))
    rw [this]; exact rfl
theorem sameR_map (a b : List Int) : U.sameR (a.map encU) (b.map encU) = decide (a = b) := by unfold U.sameR; rw [decU_map, decU_map]
theorem wb14 (a b : List Int) (ha : a.length < 1000000) (hb : b.length < 1000000) : Wf Tryd.prog H 14 [.sl (a.map encU), .sl (b.map encU)] [] = some (goB (decide (Bit.neatL a = Bit.neatL b)), [], []) := by
  refine runK (b14s a b _) ?_
  rw [neatR_map, neatR_map, sameR_map]
  exact ⟨wb50r a ha, wb50r b hb, wb51 _ _ (by have := Bit.neatL_length_le a; omega), rfl⟩
end Go.Proofs.YtdnekkkpngnmkaaDoor.E
set_option linter.unusedVariables false
set_option linter.unusedSimpArgs false
set_option maxRecDepth 100000
namespace Go.Proofs.YtdnekkkpngnmkaaDoor.E
open Go
namespace U
def atR (l : List (List AV)) (i : Int) : Int := (decU l).getD i.toNat 0
def smallB (n : Int) : Bool := decide (n ≥ 0) && decide (n < 4096)
def putR (l : List (List AV)) (n : Int) : List (List AV) := (Bit.putL (decU l) n).map encU
end U
def LR58 (l : List Int) (m : Nat) : Nat → St → LT := fun id st => .is (.exit 0) (mkS 23 [(0, .sl (l.map encU)), (3, goI m)] [.dead])
def FR : CallT := fun f args sto => match f, args, sto with
 | 78, [.sl l, .v (.int _ i)], [] => .is (goU (U.atR l i), [], [])
 | 58, [.sl l], [] => .is (.os 0 0 (U.neatR l).length, [.arr 1 (U.neatR l)], [])
 | 26, [.sl l, .v (.int _ n)], [] => .is (goB (U.hasW l n), [], [])
 | 59, [.v (.int _ n)], [] => .is (goB (U.smallB n), [], [])
 | 60, [.sl l, .v (.int _ n)], [] => .is (.os 0 0 (U.putR l n).length, [.arr 1 (U.putR l n)], [])
 | _, _, _ => .no
def LR56 (x : List Int) : Nat → St → LT := fun id st => .is (.exit 0) (mkS 55 [(7, .os 0 0 x.length)] [.arr 1 (x.map encU)])
def FR28 (m : List Int) : CallT := fun f args sto => match f with
 | 56 => .is (.sl (m.map encU), [], [])
 | _ => .no
def LR28 (m : List Int) : Nat → St → LT := fun id st => .is (.exit 0) (mkS 18 [(3, .sl (m.map encU))])
def FR19 (t : Bool) : CallT := fun f args sto => match f with
 | 54 => .is (goB t, [], [])
 | _ => .no
def LR60 (x : List Int) (n : Int) : Nat → St → LT := fun id st => .is (.exit 0) (mkS 32 [(1, goI n), (5, .os 0 0 x.length)] [.arr 1 (x.map encU)])
def LR31 (x : List Int) : Nat → St → LT := fun id st => .is (.exit 0) (mkS 27 [(5, .sl (x.map encU))])

theorem r78 (l : List Int) (i : Nat) (r : AV × List Row × List Nat) : (runT Tryd.prog H (fun f args sto => CT.of (F0 f args sto)) L0 false 78 [AV.sl (List.map encU l), goI (↑i : Int)] []
 fun q => q = r) = (TB (decide ((↑i : Int) < (↑(List.length (List.map encU l)) : Int)))
 ((0 ≤ (↑i : Int) ∧ (List.map encU l)[i]? = some [AV.v (Value.int IntKind.u64 (rdI (rowAt (List.map encU l) i) 0))]) ∧
 (AV.v (Value.int IntKind.u64 (rdI (rowAt (List.map encU l) i) 0)), [], []) = r)
 ((AV.v (Value.int IntKind.u64 0), [], []) = r)) := by kernel_rfl
theorem r26 (l : List Int) (n : Int) (r : AV × List Row × List Nat) : (runT Tryd.prog H (fun f args sto => CT.of (F0 f args sto)) L0 false 26 [AV.sl (List.map encU l), goI n] [] fun q =>
 q = r) = (TB (decide (n ≥ 0))
 (iz 64 ≠ 0 ∧
 TB (decide (IntKind.wrap IntKind.i64 (Int.tdiv n 64) < (↑(List.length (List.map encU l)) : Int)))
 (iz 64 ≠ 0 ∧
 (0 ≤ IntKind.wrap IntKind.i64 (Int.tdiv n 64) ∧
 (List.map encU l)[Int.toNat (IntKind.wrap IntKind.i64 (Int.tdiv n 64))]? =
 some
 [AV.v
 (Value.int IntKind.u64
 (rdI (rowAt (List.map encU l) (Int.toNat (IntKind.wrap IntKind.i64 (Int.tdiv n 64)))) 0))]) ∧
 iz 64 ≠ 0 ∧
 0 ≤ IntKind.wrap IntKind.u64 (Int.tmod n 64) ∧
 (goB
 (bitI BinOp.and IntKind.u64
 (shrI IntKind.u64
 (rdI (rowAt (List.map encU l) (Int.toNat (IntKind.wrap IntKind.i64 (Int.tdiv n 64)))) 0)
 (IntKind.wrap IntKind.u64 (Int.tmod n 64)))
 1 ==
 1),
 [], []) =
 r)
 ((goB false, [], []) = r))
 ((goB false, [], []) = r)) := by kernel_rfl
theorem r59 (n : Int) (r : AV × List Row × List Nat) : (runT Tryd.prog H (fun f args sto => CT.of (F0 f args sto)) L0 false 59 [goI n] [] fun q => q = r) = (TB (decide (n ≥ 0)) ((goB (decide (n < 4096)), [], []) = r) ((goB false, [], []) = r)) := by kernel_rfl
theorem r58 (l : List Int) (m : Nat) (r : AV × List Row × List Nat) : (runT Tryd.prog H (fun f args sto => CT.of (F0 f args sto)) (LR58 l m) false 58 [AV.sl (List.map encU l)] [] fun q =>
 q = r) = (LoopTo Tryd.prog H (H 58) 0 (loopOf Tryd.prog 58 2)
 (mkS 23 [(0, AV.sl (List.map encU l)), (3, goI (↑(List.length (List.map encU l)) : Int))] [Row.dead])
 (Ex.exit 0, mkS 23 [(0, AV.sl (List.map encU l)), (3, goI (↑m : Int))] [Row.dead]) ∧
 rowsOk 1 (List.map encU l) = true ∧
 (0 ≤ (↑m : Int) ∧ (↑m : Int) ≤ (↑(List.length (List.map encU l)) : Int)) ∧
 rowsOk 1 (List.drop 0 (List.take m (List.map encU l))) = true ∧
 (0 = 0 ∧ 0 + List.length (List.drop 0 (List.take m (List.map encU l))) ≤ 1000000) ∧
 (AV.os 0 0 (0 + List.length (List.drop 0 (List.take m (List.map encU l)))),
 [Row.arr 1 ([] ++ List.drop 0 (List.take m (List.map encU l)))], []) =
 r) := by kernel_rfl
theorem r58_2 (l : List Int) (n : Nat) (r : Ex × St) : (turnT Tryd.prog H (fun f args sto => CT.of (F0 f args sto)) L0 false (H 58) 0 (loopOf Tryd.prog 58 2)
 (mkS 23 [(0, AV.sl (List.map encU l)), (3, goI (↑n : Int))] [Row.dead]) r) = (TB (decide ((↑n : Int) > 0))
 ((0 ≤ IntKind.wrap IntKind.i64 ((↑n : Int) - 1) ∧
 (List.map encU l)[Int.toNat (IntKind.wrap IntKind.i64 ((↑n : Int) - 1))]? =
 some
 [AV.v
 (Value.int IntKind.u64
 (rdI (rowAt (List.map encU l) (Int.toNat (IntKind.wrap IntKind.i64 ((↑n : Int) - 1)))) 0))]) ∧
 TB (rdI (rowAt (List.map encU l) (Int.toNat (IntKind.wrap IntKind.i64 ((↑n : Int) - 1)))) 0 == 0)
 (LoopTo Tryd.prog H (H 58) 0 (loopOf Tryd.prog 58 2)
 (mkS 23 [(0, AV.sl (List.map encU l)), (3, goI (IntKind.wrap IntKind.i64 ((↑n : Int) - 1)))] [Row.dead]) r)
 ((Ex.exit 0, mkS 23 [(0, AV.sl (List.map encU l)), (3, goI (↑n : Int))] [Row.dead]) = r))
 ((Ex.exit 0, mkS 23 [(0, AV.sl (List.map encU l)), (3, goI (↑n : Int))] [Row.dead]) = r)) := by kernel_rfl
theorem r56 (a : List Int) (b : List Int) (x : List Int) (r : AV × List Row × List Nat) : (runT Tryd.prog H FR (LR56 x) false 56 [AV.sl (List.map encU a), AV.sl (List.map encU b), goI 0] [] fun q => q = r) = (LoopTo Tryd.prog H (H 56) 0 (loopOf Tryd.prog 56 3)
 (mkS 55 [(0, AV.sl (List.map encU a)), (1, AV.sl (List.map encU b)), (2, goI 0), (7, AV.os 0 0 0), (8, goI 0)]
 [Row.arr 1 []])
 (Ex.exit 0, mkS 55 [(7, AV.os 0 0 (List.length x))] [Row.arr 1 (List.map encU x)]) ∧
 Wf Tryd.prog H 58 [AV.sl (List.take (List.length x) (List.drop 0 (List.map encU x)))] [] =
 some
 (AV.os 0 0 (List.length (U.neatR (List.take (List.length x) (List.drop 0 (List.map encU x))))),
 [Row.arr 1 (U.neatR (List.take (List.length x) (List.drop 0 (List.map encU x))))], []) ∧
 (List.all (U.neatR (List.take (List.length x) (List.drop 0 (List.map encU x)))) fun r => List.all r scalarA) =
 true ∧
 (AV.sl
 (List.take (List.length (U.neatR (List.take (List.length x) (List.drop 0 (List.map encU x)))))
 (List.drop 0 (U.neatR (List.take (List.length x) (List.drop 0 (List.map encU x)))))),
 [], []) =
 r) := by kernel_rfl
theorem r56_3 (a : List Int) (b : List Int) (x : List Int) (i : Nat) (r : Ex × St) : (turnT Tryd.prog H FR L0 false (H 56) 0 (loopOf Tryd.prog 56 3)
 (mkS 55
 [(0, AV.sl (List.map encU a)), (1, AV.sl (List.map encU b)), (2, goI 0), (7, AV.os 0 0 (List.length x)),
 (8, goI (↑i : Int))]
 [Row.arr 1 (List.map encU x)])
 r) = (TB
 (decide
 ((↑i : Int) <
 if true = true then
 if (↑(List.length (List.map encU a)) : Int) < (↑(List.length (List.map encU b)) : Int) then
 (↑(List.length (List.map encU b)) : Int)
 else (↑(List.length (List.map encU a)) : Int)
 else
 if (↑(List.length (List.map encU b)) : Int) < (↑(List.length (List.map encU a)) : Int) then
 (↑(List.length (List.map encU b)) : Int)
 else (↑(List.length (List.map encU a)) : Int)))
 (Wf Tryd.prog H 78 [AV.sl (List.map encU a), goI (↑i : Int)] [] =
 some (AV.v (Value.int IntKind.u64 (U.atR (List.map encU a) (↑i : Int))), [], []) ∧
 Wf Tryd.prog H 78 [AV.sl (List.map encU b), goI (↑i : Int)] [] =
 some (AV.v (Value.int IntKind.u64 (U.atR (List.map encU b) (↑i : Int))), [], []) ∧
 true = true ∧
 (List.length x = List.length (List.map encU x) ∧ List.length x + 1 ≤ 1000000) ∧
 LoopTo Tryd.prog H (H 56) 0 (loopOf Tryd.prog 56 3)
 (mkS 55
 [(0, AV.sl (List.map encU a)), (1, AV.sl (List.map encU b)), (2, goI 0),
 (7, AV.os 0 0 (List.length x + 1)), (8, goI (IntKind.wrap IntKind.i64 ((↑i : Int) + 1)))]
 [Row.arr 1
 (List.map encU x ++
 [[AV.v
 (Value.int IntKind.u64
 (bitI BinOp.or IntKind.u64 (U.atR (List.map encU a) (↑i : Int))
 (U.atR (List.map encU b) (↑i : Int))))]])])
 r)
 ((Ex.exit 0, mkS 55 [(7, AV.os 0 0 (List.length x))] [Row.arr 1 (List.map encU x)]) = r)) := by kernel_rfl
theorem r28 (a : List Int) (b : List Int) (m : List Int) (r : AV × List Row × List Nat) : (runT Tryd.prog H (FR28 m) (LR28 m) false 28 [AV.sl [[AV.sl (List.map encU a)], [AV.sl (List.map encU b)]]] [] fun q =>
 q = r) = (LoopTo Tryd.prog H (H 28) 0 (loopOf Tryd.prog 28 3)
 (mkS 18 [(0, AV.sl [[AV.sl (List.map encU a)], [AV.sl (List.map encU b)]]), (3, AV.sl []), (4, goI 0)])
 (Ex.exit 0, mkS 18 [(3, AV.sl (List.map encU m))]) ∧
 (AV.sl (List.map encU m), [], []) = r) := by kernel_rfl
theorem r28_0 (a : List Int) (b : List Int) (o : List Int) (m : List Int) (r : Ex × St) : (turnT Tryd.prog H (FR28 m) L0 false (H 28) 0 (loopOf Tryd.prog 28 3)
 (mkS 18 [(0, AV.sl [[AV.sl (List.map encU a)], [AV.sl (List.map encU b)]]), (3, AV.sl (List.map encU o)), (4, goI 0)])
 r) = ((iz 0 ≤ 0 ∧ some [AV.sl (List.map encU a)] = some [AV.sl (rdL [AV.sl (List.map encU a)] 0)]) ∧
 Wf Tryd.prog H 56 [AV.sl (List.map encU o), AV.sl (rdL [AV.sl (List.map encU a)] 0), goI 0] [] =
 some (AV.sl (List.map encU m), [], []) ∧
 LoopTo Tryd.prog H (H 28) 0 (loopOf Tryd.prog 28 3)
 (mkS 18
 [(0, AV.sl [[AV.sl (List.map encU a)], [AV.sl (List.map encU b)]]), (3, AV.sl (List.map encU m)),
 (4, goI (IntKind.wrap IntKind.i64 (0 + 1)))])
 r) := by kernel_rfl
theorem r28_1 (a : List Int) (b : List Int) (o : List Int) (m : List Int) (r : Ex × St) : (turnT Tryd.prog H (FR28 m) L0 false (H 28) 0 (loopOf Tryd.prog 28 3)
 (mkS 18 [(0, AV.sl [[AV.sl (List.map encU a)], [AV.sl (List.map encU b)]]), (3, AV.sl (List.map encU o)), (4, goI 1)])
 r) = ((iz 0 ≤ 1 ∧ some [AV.sl (List.map encU b)] = some [AV.sl (rdL [AV.sl (List.map encU b)] 0)]) ∧
 Wf Tryd.prog H 56 [AV.sl (List.map encU o), AV.sl (rdL [AV.sl (List.map encU b)] 0), goI 0] [] =
 some (AV.sl (List.map encU m), [], []) ∧
 LoopTo Tryd.prog H (H 28) 0 (loopOf Tryd.prog 28 3)
 (mkS 18
 [(0, AV.sl [[AV.sl (List.map encU a)], [AV.sl (List.map encU b)]]), (3, AV.sl (List.map encU m)),
 (4, goI (IntKind.wrap IntKind.i64 (1 + 1)))])
 r) := by kernel_rfl
theorem r28_2 (a : List Int) (b : List Int) (o : List Int) (r : Ex × St) : (turnT Tryd.prog H (fun f args sto => CT.of (F0 f args sto)) L0 false (H 28) 0 (loopOf Tryd.prog 28 3)
 (mkS 18 [(0, AV.sl [[AV.sl (List.map encU a)], [AV.sl (List.map encU b)]]), (3, AV.sl (List.map encU o)), (4, goI 2)])
 r) = ((Ex.exit 0, mkS 18 [(3, AV.sl (List.map encU o))]) = r) := by kernel_rfl
theorem r54 (a : List Int) (b : List Int) (r : AV × List Row × List Nat) : (runT Tryd.prog H (fun f args sto => CT.of (F0 f args sto)) (fun id st => LT.is (Ex.exit 0) (mkS 22 [])) false 54
 [AV.sl (List.map encU a), AV.sl (List.map encU b)] [] fun q => q = r) = (LoopTo Tryd.prog H (H 54) 0 (loopOf Tryd.prog 54 2)
 (mkS 22 [(0, AV.sl (List.map encU a)), (1, AV.sl (List.map encU b)), (5, goI 0)]) (Ex.exit 0, mkS 22 []) ∧
 (goB true, [], []) = r) := by kernel_rfl
theorem r54_2 (a : List Int) (b : List Int) (i : Nat) (r : Ex × St) : (turnT Tryd.prog H FR L0 false (H 54) 0 (loopOf Tryd.prog 54 2)
 (mkS 22 [(0, AV.sl (List.map encU a)), (1, AV.sl (List.map encU b)), (5, goI (↑i : Int))]) r) = (TB
 (decide
 ((↑i : Int) <
 if true = true then
 if (↑(List.length (List.map encU a)) : Int) < (↑(List.length (List.map encU b)) : Int) then
 (↑(List.length (List.map encU b)) : Int)
 else (↑(List.length (List.map encU a)) : Int)
 else
 if (↑(List.length (List.map encU b)) : Int) < (↑(List.length (List.map encU a)) : Int) then
 (↑(List.length (List.map encU b)) : Int)
 else (↑(List.length (List.map encU a)) : Int)))
 (Wf Tryd.prog H 78 [AV.sl (List.map encU a), goI (↑i : Int)] [] =
 some (AV.v (Value.int IntKind.u64 (U.atR (List.map encU a) (↑i : Int))), [], []) ∧
 Wf Tryd.prog H 78 [AV.sl (List.map encU b), goI (↑i : Int)] [] =
 some (AV.v (Value.int IntKind.u64 (U.atR (List.map encU b) (↑i : Int))), [], []) ∧
 TB (!U.atR (List.map encU a) (↑i : Int) == U.atR (List.map encU b) (↑i : Int))
 ((Ex.ret, mkS 22 [(4, goB false)]) = r)
 (LoopTo Tryd.prog H (H 54) 0 (loopOf Tryd.prog 54 2)
 (mkS 22
 [(0, AV.sl (List.map encU a)), (1, AV.sl (List.map encU b)),
 (5, goI (IntKind.wrap IntKind.i64 ((↑i : Int) + 1)))])
 r))
 ((Ex.exit 0, mkS 22 []) = r)) := by kernel_rfl
theorem r19 (a : List Int) (b : List Int) (t : Bool) (r : AV × List Row × List Nat) : (runT Tryd.prog H (FR19 t) L0 false 19 [AV.sl (List.map encU a), AV.sl (List.map encU b)] [] fun q => q = r) = (TB ((↑(List.length (List.map encU a)) : Int) == (↑(List.length (List.map encU b)) : Int))
 (Wf Tryd.prog H 54 [AV.sl (List.map encU a), AV.sl (List.map encU b)] [] = some (goB t, [], []) ∧ (goB t, [], []) = r)
 ((goB false, [], []) = r)) := by kernel_rfl
theorem r60 (s : List Int) (x : List Int) (n : Int) (r : AV × List Row × List Nat) : (runT Tryd.prog H (fun f args sto => CT.of (F0 f args sto)) (LR60 x n) false 60 [AV.sl (List.map encU s), goI n] []
 fun q => q = r) = (rowsOk 1 (List.map encU s) = true ∧
 (0 = 0 ∧ 0 + List.length (List.map encU s) ≤ 1000000) ∧
 LoopTo Tryd.prog H (H 60) 0 (loopOf Tryd.prog 60 2)
 (mkS 32 [(1, goI n), (5, AV.os 0 0 (0 + List.length (List.map encU s)))] [Row.arr 1 ([] ++ List.map encU s)])
 (Ex.exit 0, mkS 32 [(1, goI n), (5, AV.os 0 0 (List.length x))] [Row.arr 1 (List.map encU x)]) ∧
 iz 64 ≠ 0 ∧
 iz 64 ≠ 0 ∧
 (0 ≤ IntKind.wrap IntKind.i64 (Int.tdiv n 64) ∧
 IntKind.wrap IntKind.i64 (Int.tdiv n 64) < (↑(List.length x) : Int) ∧
 0 + Int.toNat (IntKind.wrap IntKind.i64 (Int.tdiv n 64)) < List.length (List.map encU x)) ∧
 cutAt 1 0 (List.map encU x)[0 + Int.toNat (IntKind.wrap IntKind.i64 (Int.tdiv n 64))]? =
 some
 [AV.v
 (Value.int IntKind.u64
 (rdI (rowAt (List.map encU x) (0 + Int.toNat (IntKind.wrap IntKind.i64 (Int.tdiv n 64)))) 0))] ∧
 iz 64 ≠ 0 ∧
 0 ≤ IntKind.wrap IntKind.u64 (Int.tmod n 64) ∧
 (0 ≤ IntKind.wrap IntKind.i64 (Int.tdiv n 64) ∧
 IntKind.wrap IntKind.i64 (Int.tdiv n 64) < (↑(List.length x) : Int) ∧
 0 + Int.toNat (IntKind.wrap IntKind.i64 (Int.tdiv n 64)) < List.length (List.map encU x)) ∧
 Option.map List.length
 (List.map encU x)[0 + Int.toNat (IntKind.wrap IntKind.i64 (Int.tdiv n 64))]? =
 some 1 ∧
 (AV.os 0 0 (List.length x),
 [Row.arr 1
 (List.set (List.map encU x) (0 + Int.toNat (IntKind.wrap IntKind.i64 (Int.tdiv n 64)))
 [AV.v
 (Value.int IntKind.u64
 (bitI BinOp.or IntKind.u64
 (rdI
 (rowAt (List.map encU x)
 (0 + Int.toNat (IntKind.wrap IntKind.i64 (Int.tdiv n 64))))
 0)
 (shlI IntKind.u64 1 (IntKind.wrap IntKind.u64 (Int.tmod n 64)))))])],
 []) =
 r) := by kernel_rfl
theorem r60_2 (x : List Int) (n : Int) (r : Ex × St) : (turnT Tryd.prog H (fun f args sto => CT.of (F0 f args sto)) L0 false (H 60) 0 (loopOf Tryd.prog 60 2)
 (mkS 32 [(1, goI n), (5, AV.os 0 0 (List.length x))] [Row.arr 1 (List.map encU x)]) r) = (iz 64 ≠ 0 ∧
 TB (decide ((↑(List.length x) : Int) ≤ IntKind.wrap IntKind.i64 (Int.tdiv n 64)))
 (true = true ∧
 (List.length x = List.length (List.map encU x) ∧ List.length x + 1 ≤ 1000000) ∧
 LoopTo Tryd.prog H (H 60) 0 (loopOf Tryd.prog 60 2)
 (mkS 32 [(1, goI n), (5, AV.os 0 0 (List.length x + 1))]
 [Row.arr 1 (List.map encU x ++ [[AV.v (Value.int IntKind.u64 0)]])])
 r)
 ((Ex.exit 0, mkS 32 [(1, goI n), (5, AV.os 0 0 (List.length x))] [Row.arr 1 (List.map encU x)]) = r)) := by kernel_rfl
theorem r31 (s : List Int) (l : List Int) (x : List Int) (r : AV × List Row × List Nat) : (runT Tryd.prog H FR (LR31 x) false 31 [AV.sl (List.map encU s), AV.sl (List.map encI l)] [] fun q => q = r) = (LoopTo Tryd.prog H (H 31) 0 (loopOf Tryd.prog 31 3)
 (mkS 27 [(1, AV.sl (List.map encI l)), (5, AV.sl (List.map encU s)), (6, goI 0)])
 (Ex.exit 0, mkS 27 [(5, AV.sl (List.map encU x))]) ∧
 Wf Tryd.prog H 58 [AV.sl (List.map encU x)] [] =
 some (AV.os 0 0 (List.length (U.neatR (List.map encU x))), [Row.arr 1 (U.neatR (List.map encU x))], []) ∧
 (AV.sl (List.take (List.length (U.neatR (List.map encU x))) (List.drop 0 (U.neatR (List.map encU x)))), [], []) = r) := by kernel_rfl
theorem r31_3 (l : List Int) (x : List Int) (i : Nat) (r : Ex × St) : (turnT Tryd.prog H FR L0 false (H 31) 0 (loopOf Tryd.prog 31 3)
 (mkS 27 [(1, AV.sl (List.map encI l)), (5, AV.sl (List.map encU x)), (6, goI (↑i : Int))]) r) = (TB (decide ((↑i : Int) < (↑(List.length (List.map encI l)) : Int)))
 ((0 ≤ (↑i : Int) ∧ (List.map encI l)[i]? = some [goI (rdI (rowAt (List.map encI l) i) 0)]) ∧
 Wf Tryd.prog H 59 [goI (rdI (rowAt (List.map encI l) i) 0)] [] =
 some (goB (U.smallB (rdI (rowAt (List.map encI l) i) 0)), [], []) ∧
 TB (U.smallB (rdI (rowAt (List.map encI l) i) 0))
 ((0 ≤ (↑i : Int) ∧ (List.map encI l)[i]? = some [goI (rdI (rowAt (List.map encI l) i) 0)]) ∧
 Wf Tryd.prog H 60 [AV.sl (List.map encU x), goI (rdI (rowAt (List.map encI l) i) 0)] [] =
 some
 (AV.os 0 0 (List.length (U.putR (List.map encU x) (rdI (rowAt (List.map encI l) i) 0))),
 [Row.arr 1 (U.putR (List.map encU x) (rdI (rowAt (List.map encI l) i) 0))], []) ∧
 LoopTo Tryd.prog H (H 31) 0 (loopOf Tryd.prog 31 3)
 (mkS 27
 [(1, AV.sl (List.map encI l)),
 (5,
 AV.sl
 (List.take (List.length (U.putR (List.map encU x) (rdI (rowAt (List.map encI l) i) 0)))
 (List.drop 0 (U.putR (List.map encU x) (rdI (rowAt (List.map encI l) i) 0))))),
 (6, goI (IntKind.wrap IntKind.i64 ((↑i : Int) + 1)))])
 r)
 (LoopTo Tryd.prog H (H 31) 0 (loopOf Tryd.prog 31 3)
 (mkS 27
 [(1, AV.sl (List.map encI l)), (5, AV.sl (List.map encU x)),
 (6, goI (IntKind.wrap IntKind.i64 ((↑i : Int) + 1)))])
 r))
 ((Ex.exit 0, mkS 27 [(5, AV.sl (List.map encU x))]) = r)) := by kernel_rfl
theorem wd_ge {l : List Int} {i : Nat} (h : l.length ≤ i) : wd l i = 0 := by unfold wd; rw [List.getD_eq_getElem?_getD, List.getElem?_eq_none h]; rfl
theorem atR_map (l : List Int) (i : Nat) : U.atR (l.map encU) (i : Int) = wd l i := by unfold U.atR; rw [decU_map]; rfl
theorem scalU (l : List Int) : ((l.map encU).all fun r => r.all scalarA) = true := List.all_eq_true.2 (fun r hr => by
  obtain ⟨x, _, rfl⟩ := List.mem_map.1 hr
  rfl)
theorem wr78 (l : List Int) (i : Nat) : Wf Tryd.prog H 78 [.sl (l.map encU), goI i] [] = some (goU (wd l i), [], []) := by
  refine runK (r78 l i _) ?_
  rw [List.length_map]
  by_cases h : i < l.length
  · obtain ⟨r1, r2⟩ := rowU h
    rw [decide_eq_true (by omega), r1, r2]
    exact ⟨⟨by omega, rfl⟩, rfl⟩
  · rw [decide_eq_false (by omega), wd_ge (by omega)]; exact rfl
theorem loopr58 (l : List Int) (hl : l.length < 1000000) : ∀ n, n ≤ l.length →
    LoopTo Tryd.prog H (H 58) 0 (loopOf Tryd.prog 58 2) (mkS 23 [(0, .sl (l.map encU)), (3, goI n)] [.dead]) (.exit 0, mkS 23 [(0, .sl (l.map encU)), (3, goI (Bit.neatL (l.take n)).length)] [.dead])
  | 0, _ => by
    refine turnK (r58_2 l 0 _) ?_
    rw [decide_eq_false (by omega), List.take_zero]; exact rfl
  | n + 1, hn => by
    have ih := loopr58 l hl n (by omega)
    have ew : IntKind.i64.wrap (((n + 1 : Nat) : Int) - 1) = (n : Int) := by rw [wrap64 (by omega) (by omega)]; omega
    obtain ⟨r1, r2⟩ := rowU (l := l) (i := n) (by omega)
    refine turnK (r58_2 l (n + 1) _) ?_
    rw [ew, decide_eq_true (by omega), Int.toNat_natCast, r1, r2, take_snoc l n (by omega)]
    refine ⟨⟨by omega, rfl⟩, ?_⟩
    by_cases h0 : wd l n = 0
    · rw [show (wd l n == 0) = true by simp [h0], h0, Bit.neatL_snoc_zero]
      exact ih
    · rw [show (wd l n == 0) = false by simp [h0], Bit.neatL_snoc_ne _ _ h0]
      rw [List.length_append, List.length_take, Nat.min_eq_left (by omega)]
      exact rfl
theorem wr58 (l : List Int) (hl : l.length < 1000000) : Wf Tryd.prog H 58 [.sl (l.map encU)] [] = some (.os 0 0 (Bit.neatL l).length, [.arr 1 ((Bit.neatL l).map encU)], []) := by
  have h := loopr58 l hl l.length (Nat.le_refl _)
  rw [List.take_length] at h
  have hle := Bit.neatL_length_le l
  have e1 : (l.map encU).length = l.length := List.length_map _
  have e2 : List.drop 0 (List.take (Bit.neatL l).length (l.map encU)) = (Bit.neatL l).map encU := by rw [List.drop_zero, ← List.map_take, neat_take]
  refine runK (r58 l (Bit.neatL l).length _) ?_
  rw [e1, e2, List.nil_append, Nat.zero_add, List.length_map]
  exact ⟨h, rowsOkU l, ⟨by omega, by omega⟩, rowsOkU _, ⟨rfl, by omega⟩, rfl⟩
theorem emaxI (x y : Nat) : (if true = true then if (x : Int) < (y : Int) then (y : Int) else (x : Int) else if (y : Int) < (x : Int) then (y : Int) else (x : Int)) = ((max x y : Nat) : Int) := by
  rw [if_pos rfl]
  split <;> omega
theorem zip_of (a b x : List Int) (hl : x.length = max a.length b.length) (h : ∀ j, j < x.length → wd x j = Bit.orI (wd a j) (wd b j)) : x = Bit.zipL Bit.orI a b :=
  wd_ext (by rw [hl, Bit.zipL_length]) (fun i hi => by
    rw [h i hi]
    exact (Bit.zipL_getD Bit.orI (by decide) a b i).symm)
theorem loopr56 (a b : List Int) (ha : a.length ≤ 1000) (hb : b.length ≤ 1000) : ∀ (d i : Nat) (x : List Int), i + d = max a.length b.length → x.length = i → (∀ j, j < x.length → wd x j = Bit.orI (wd a j) (wd b j)) →
    LoopTo Tryd.prog H (H 56) 0 (loopOf Tryd.prog 56 3) (mkS 55 [(0, .sl (a.map encU)), (1, .sl (b.map encU)), (2, goI 0), (7, .os 0 0 x.length), (8, goI i)] [.arr 1 (x.map encU)])
      (.exit 0, mkS 55 [(7, .os 0 0 (Bit.zipL Bit.orI a b).length)] [.arr 1 ((Bit.zipL Bit.orI a b).map encU)])
  | 0, i, x, hd, hx, hj => by
    have e := zip_of a b x (by omega) hj
    refine turnK (r56_3 a b x i _) ?_
    rw [List.length_map, List.length_map, emaxI, decide_eq_false (by omega), ← e]; exact rfl
  | d + 1, i, x, hd, hx, hj => by
    have ih := loopr56 a b ha hb d (i + 1) (x ++ [Bit.orI (wd a i) (wd b i)]) (by omega) (by rw [List.length_append, List.length_singleton, hx]) (fun j hj' => by
      rw [List.length_append, List.length_singleton] at hj'
      by_cases e : j < x.length
      · have : wd (x ++ [Bit.orI (wd a i) (wd b i)]) j = wd x j := by
          unfold wd
          rw [List.getD_eq_getElem?_getD, List.getElem?_append_left e]
          exact (List.getD_eq_getElem?_getD ..).symm
        rw [this]; exact hj j e
      · have e' : j = i := by omega
        subst e'
        unfold wd
        rw [List.getD_eq_getElem?_getD, List.getElem?_append_right (by omega), show j - x.length = 0 by omega]
        rfl)
    rw [List.length_append, List.length_singleton, List.map_append] at ih
    have h1 := wr78 a i
    have h2 := wr78 b i
    refine turnK (r56_3 a b x i _) ?_
    rw [List.length_map, List.length_map, emaxI, decide_eq_true (by omega), atR_map, atR_map, wrapS (show i < max a.length b.length by omega) (by omega)]
    exact ⟨h1, h2, rfl, ⟨by rw [List.length_map], by omega⟩, ih⟩
theorem wr56 (a b : List Int) (ha : a.length ≤ 1000) (hb : b.length ≤ 1000) : Wf Tryd.prog H 56 [.sl (a.map encU), .sl (b.map encU), goI 0] [] = some (.sl ((Bit.opL Bit.orI a b).map encU), [], []) := by
  have h := loopr56 a b ha hb (max a.length b.length) 0 [] (by omega) rfl (fun j hj => by simp at hj)
  have hz := Bit.zipL_length Bit.orI a b
  have hn := wr58 (Bit.zipL Bit.orI a b) (by omega)
  refine runK (r56 a b (Bit.zipL Bit.orI a b) _) ?_
  rw [take_map, neatR_map, take_all, List.length_map]
  exact ⟨h, hn, scalU _, rfl⟩
theorem wr28 (a b : List Int) (ha : a.length ≤ 1000) (hb : b.length ≤ 1000) : Wf Tryd.prog H 28 [.sl [[.sl (a.map encU)], [.sl (b.map encU)]]] [] = some (.sl ((Bit.joinL [a, b] []).map encU), [], []) := by
  have h0 := wr56 [] a (by simp) ha
  have hl1 := Bit.opL_length Bit.orI [] a
  have h1 := wr56 (Bit.opL Bit.orI [] a) b (by rw [List.length_nil] at hl1; omega) hb
  refine runK (r28 a b (Bit.joinL [a, b] []) _) ⟨?_, rfl⟩
  refine turnK (r28_0 a b [] (Bit.opL Bit.orI [] a) _) ⟨⟨by decide, rfl⟩, h0, ?_⟩
  refine turnK (r28_1 a b (Bit.opL Bit.orI [] a) (Bit.opL Bit.orI (Bit.opL Bit.orI [] a) b) _) ⟨⟨by decide, rfl⟩, h1, ?_⟩
  exact turnK (r28_2 a b _ _) rfl
theorem loopr54 (a : List Int) (ha : a.length < 1000000) : ∀ (d i : Nat), i + d = a.length →
    LoopTo Tryd.prog H (H 54) 0 (loopOf Tryd.prog 54 2) (mkS 22 [(0, .sl (a.map encU)), (1, .sl (a.map encU)), (5, goI i)]) (.exit 0, mkS 22 [])
  | 0, i, hd => by
    refine turnK (r54_2 a a i _) ?_
    rw [List.length_map, emaxI, decide_eq_false (by omega)]; exact rfl
  | d + 1, i, hd => by
    have ih := loopr54 a ha d (i + 1) (by omega)
    have h1 := wr78 a i
    refine turnK (r54_2 a a i _) ?_
    rw [List.length_map, emaxI, decide_eq_true (by omega), atR_map, wrapS (show i < a.length by omega) ha, beq_self_eq_true]
    exact ⟨h1, h1, ih⟩
/-- The same words. -/
theorem wr19 (a : List Int) (ha : a.length < 1000000) : Wf Tryd.prog H 19 [.sl (a.map encU), .sl (a.map encU)] [] = some (goB true, [], []) := by
  have h : Wf Tryd.prog H 54 [.sl (a.map encU), .sl (a.map encU)] [] = some (goB true, [], []) := runK (r54 a a _) ⟨loopr54 a ha a.length 0 (by omega), rfl⟩
  refine runK (r19 a a true _) ?_
  rw [beq_self_eq_true]
  exact ⟨h, rfl⟩
theorem wr59 (n : Int) : Wf Tryd.prog H 59 [goI n] [] = some (goB (U.smallB n), [], []) := by
  refine runK (r59 n _) ?_
  unfold U.smallB
  cases decide (n ≥ 0) with
  | false => exact rfl
  | true => exact rfl
theorem tmodU {n : Int} (h0 : 0 ≤ n) : IntKind.u64.wrap (Int.tmod n 64) = ((n.toNat % 64 : Nat) : Int) := by
  rw [Int.tmod_eq_emod_of_nonneg h0, Bit.wrapU (by omega) (by omega)]; omega
theorem wr26 {l : List Int} (hw : Bit.Wd l) (n : Int) (h1 : n < 9223372036854775808) (hl : l.length < 1000000) : Wf Tryd.prog H 26 [.sl (l.map encU), goI n] [] = some (goB (Bit.hasB l n), [], []) := by
  have elen : (l.map encU).length = l.length := List.length_map _
  refine runK (r26 l n _) ?_
  by_cases h0 : n ≥ 0
  · have e1 : IntKind.i64.wrap (Int.tdiv n 64) = ((n.toNat / 64 : Nat) : Int) := by
      rw [Int.tdiv_eq_ediv_of_nonneg h0, wrap64 (by omega) (by omega)]; omega
    rw [decide_eq_true h0, elen, e1, tmodU h0, Int.toNat_natCast]
    refine ⟨iz64, ?_⟩
    by_cases hb : n.toNat / 64 < l.length
    · obtain ⟨r1, r2⟩ := rowU hb
      rw [decide_eq_true (by omega), r1, r2]
      refine ⟨iz64, ⟨by omega, rfl⟩, iz64, by omega, ?_⟩
      have h3 := Bit.has_bit (x := wd l (n.toNat / 64)) (j := ((n.toNat % 64 : Nat) : Int)) (hw.getD _) (by omega) (by omega)
      have h4 : (bitI BinOp.and IntKind.u64 (shrI IntKind.u64 (wd l (n.toNat / 64)) ((n.toNat % 64 : Nat) : Int)) 1 == 1) = Bit.hasB l n := by
        refine h3.trans ?_
        unfold Bit.hasB Bit.tb
        rw [decide_eq_true (show 0 ≤ n from h0), Bool.true_and, Int.toNat_natCast]
        rfl
      rw [h4]
    · rw [decide_eq_false (by omega)]
      have : Bit.hasB l n = false := by
        cases h : Bit.hasB l n with
        | false => rfl
        | true => have := Bit.hasB_lt h; omega
      rw [this]; exact rfl
  · rw [decide_eq_false h0]
    have : Bit.hasB l n = false := by unfold Bit.hasB; rw [decide_eq_false (by omega)]; rfl
    rw [this]; exact rfl
theorem hasW_map (l : List Int) (n : Int) : U.hasW (l.map encU) n = Bit.hasB l n := by unfold U.hasW; rw [decU_map]
theorem putR_map (l : List Int) (n : Int) : U.putR (l.map encU) n = (Bit.putL l n).map encU := by unfold U.putR; rw [decU_map]
theorem pad_snoc {x : List Int} {i : Nat} (h : x.length ≤ i) : Bit.padL (x ++ [0]) i = Bit.padL x i := by
  unfold Bit.padL
  rw [List.length_append, List.length_singleton, List.append_assoc, show i + 1 - x.length = (i + 1 - (x.length + 1)) + 1 by omega, List.replicate_succ]
  rfl
theorem loopr60 (n : Int) (h0 : 0 ≤ n) (h1 : n < 4096) : ∀ (d : Nat) (x : List Int), x.length ≤ 1000 → n.toNat / 64 + 1 - x.length = d →
    LoopTo Tryd.prog H (H 60) 0 (loopOf Tryd.prog 60 2) (mkS 32 [(1, goI n), (5, .os 0 0 x.length)] [.arr 1 (x.map encU)])
      (.exit 0, mkS 32 [(1, goI n), (5, .os 0 0 (Bit.padL x (n.toNat / 64)).length)] [.arr 1 ((Bit.padL x (n.toNat / 64)).map encU)]) := by
  have e1 : IntKind.i64.wrap (Int.tdiv n 64) = ((n.toNat / 64 : Nat) : Int) := by
    rw [Int.tdiv_eq_ediv_of_nonneg h0, wrap64 (by omega) (by omega)]; omega
  intro d
  induction d with
  | zero =>
    intro x hx hd
    have epad : Bit.padL x (n.toNat / 64) = x := by
      unfold Bit.padL
      rw [hd]; simp
    refine turnK (r60_2 x n _) ?_
    rw [e1, decide_eq_false (by omega), epad]
    exact ⟨iz64, rfl⟩
  | succ d ih =>
    intro x hx hd
    have ih := ih (x ++ [0]) (by rw [List.length_append, List.length_singleton]; omega) (by rw [List.length_append, List.length_singleton]; omega)
    rw [pad_snoc (by omega), List.length_append, List.length_singleton, List.map_append] at ih
    refine turnK (r60_2 x n _) ?_
    rw [e1, decide_eq_true (by omega)]
    exact ⟨iz64, rfl, ⟨by rw [List.length_map], by omega⟩, ih⟩
theorem wr60 (s : List Int) (n : Int) (hw : Bit.Wd s) (hs : s.length ≤ 1000) (h0 : 0 ≤ n) (h1 : n < 4096) : Wf Tryd.prog H 60 [.sl (s.map encU), goI n] [] = some (.os 0 0 (Bit.putL s n).length, [.arr 1 ((Bit.putL s n).map encU)], []) := by
  have h := loopr60 n h0 h1 _ s hs rfl
  have e1 : IntKind.i64.wrap (Int.tdiv n 64) = ((n.toNat / 64 : Nat) : Int) := by
    rw [Int.tdiv_eq_ediv_of_nonneg h0, wrap64 (by omega) (by omega)]; omega
  have hpl : Bit.putL s n = Bit.orL (Bit.padL s (n.toNat / 64)) n.toNat := by unfold Bit.putL; rw [if_pos (by omega)]
  have hol := Bit.orL_length (Bit.padL s (n.toNat / 64)) n.toNat
  have hpadl := Bit.padL_length s (n.toNat / 64)
  have hpw := Bit.padL_Wd hw (n.toNat / 64)
  have e5 : shlI IntKind.u64 1 ((n.toNat % 64 : Nat) : Int) = ((2 ^ (n.toNat % 64) : Nat) : Int) := by
    have := Bit.shl_one (j := ((n.toNat % 64 : Nat) : Int)) (by omega) (by omega)
    rw [Int.toNat_natCast] at this
    exact this
  have ebit : bitI BinOp.or IntKind.u64 (wd (Bit.padL s (n.toNat / 64)) (n.toNat / 64)) (shlI IntKind.u64 1 ((n.toNat % 64 : Nat) : Int)) = ((((Bit.padL s (n.toNat / 64)).getD (n.toNat / 64) 0).toNat ||| 2 ^ (n.toNat % 64) : Nat) : Int) := by
    rw [e5]
    have hp := Bit.pow_lt (j := n.toNat % 64) (by omega)
    have := Bit.bits_or (x := wd (Bit.padL s (n.toNat / 64)) (n.toNat / 64)) (y := ((2 ^ (n.toNat % 64) : Nat) : Int)) (hpw.getD _) ⟨Int.natCast_nonneg _, Bit.lt_cast hp⟩
    rw [Int.toNat_natCast] at this
    exact this
  obtain ⟨r1, r2⟩ := rowU (l := Bit.padL s (n.toNat / 64)) (i := n.toNat / 64) (by omega)
  have eset : ((Bit.padL s (n.toNat / 64)).map encU).set (n.toNat / 64) [AV.v (.int .u64 ((((Bit.padL s (n.toNat / 64)).getD (n.toNat / 64) 0).toNat ||| 2 ^ (n.toNat % 64) : Nat) : Int))] = (Bit.orL (Bit.padL s (n.toNat / 64)) n.toNat).map encU := set_mapU _ _ _
  have elen : (s.map encU).length = s.length := List.length_map _
  refine runK (r60 s (Bit.padL s (n.toNat / 64)) n _) ?_
  rw [elen, List.nil_append, Nat.zero_add, e1, tmodU h0, Nat.zero_add, Int.toNat_natCast, r1, r2, ebit, eset, hpl, hol]
  have hin : 0 ≤ ((n.toNat / 64 : Nat) : Int) ∧ ((n.toNat / 64 : Nat) : Int) < ((Bit.padL s (n.toNat / 64)).length : Int) ∧ n.toNat / 64 < ((Bit.padL s (n.toNat / 64)).map encU).length := ⟨by omega, by omega, by rw [List.length_map]; omega⟩
  exact ⟨rowsOkU s, ⟨rfl, by omega⟩, h, iz64, iz64, hin, rfl, iz64, by omega, hin, rfl, rfl⟩
theorem put_no {x : List Int} {n : Int} (h : U.smallB n = false) : Bit.putL x n = x := by
  unfold U.smallB at h
  unfold Bit.putL
  rw [if_neg]
  rintro ⟨h0, h1⟩
  rw [decide_eq_true (show n ≥ 0 from h0), decide_eq_true h1] at h
  cases h
theorem loopr31 (l : List Int) (hl : l.length < 1000000) : ∀ (d i : Nat) (x : List Int), i + d = l.length → Bit.Wd x → x.length ≤ 1000 →
    LoopTo Tryd.prog H (H 31) 0 (loopOf Tryd.prog 31 3) (mkS 27 [(1, .sl (l.map encI)), (5, .sl (x.map encU)), (6, goI i)]) (.exit 0, mkS 27 [(5, .sl (((l.drop i).foldl Bit.putL x).map encU))])
  | 0, i, x, hd, hw, hx => by
    have e0 : l.drop i = [] := List.drop_of_length_le (by omega)
    rw [e0]
    refine turnK (r31_3 l x i _) ?_
    rw [List.length_map, decide_eq_false (by omega)]; exact rfl
  | d + 1, i, x, hd, hw, hx => by
    have hi : i < l.length := by omega
    have ed : l.drop i = U.nt l i :: l.drop (i + 1) := drop_cons' l hi
    have e1 : rdI (rowAt (l.map encI) i) 0 = U.nt l i := by rw [rowI hi]; rfl
    have hput := Bit.putL_length x (U.nt l i)
    have ih := loopr31 l hl d (i + 1) (Bit.putL x (U.nt l i)) (by omega) (Bit.putL_Wd hw _) (by omega)
    have h59 := wr59 (U.nt l i)
    rw [ed, List.foldl_cons]
    refine turnK (r31_3 l x i _) ?_
    rw [List.length_map, decide_eq_true (by omega), e1, getI hi, wrapS hi hl]
    refine ⟨⟨by omega, rfl⟩, h59, ?_⟩
    cases hs : U.smallB (U.nt l i) with
    | false => rw [put_no hs] at ih ⊢; exact ih
    | true =>
      have hs' := hs
      unfold U.smallB at hs'
      rw [Bool.and_eq_true, decide_eq_true_eq, decide_eq_true_eq] at hs'
      have h60 := wr60 x (U.nt l i) hw hx hs'.1 hs'.2
      rw [putR_map, take_all, List.length_map]
      exact ⟨⟨by omega, rfl⟩, h60, ih⟩
theorem wr31 (s l : List Int) (hw : Bit.Wd s) (hs : s.length ≤ 1000) (hl : l.length < 1000000) : Wf Tryd.prog H 31 [.sl (s.map encU), .sl (l.map encI)] [] = some (.sl ((U.withL s l).map encU), [], []) := by
  have h := loopr31 l hl l.length 0 s (by omega) hw hs
  rw [List.drop_zero] at h
  have hx := puts_len l s hs
  have hn := wr58 (l.foldl Bit.putL s) (by omega)
  refine runK (r31 s l (l.foldl Bit.putL s) _) ?_
  rw [neatR_map, take_all, List.length_map]
  exact ⟨h, hn, rfl⟩
end Go.Proofs.YtdnekkkpngnmkaaDoor.E
