/- Functions, by what the evaluator asks; the theorems t.. were printed by show.txt, a program of this session. -/
import Derived.Test.YtdnekkkpngnmkaaDoor11f
set_option linter.unusedVariables false
set_option linter.unusedSimpArgs false
set_option maxRecDepth 100000
namespace Go.Proofs.YtdnekkkpngnmkaaDoor.E
open Go
def LR30 (x : List Int) : Nat → St → LT := fun id st => .is (.exit 0) (mkS 47 [(5, .os 0 0 x.length)] [.arr 1 (x.map encU)])
namespace U
def lessW (a b : Int) : Int := Bit.lessI a b
end U
def FR79 (k : Nat) : CallT := fun f args sto => match f, args, sto with
 | 80, [.v (.int _ a), .v (.int _ b)], [] => .is (goU (U.lessW a b), [], [])
 | 50, [.os 0 0 _], [.arr 1 x] => .is (.os 0 0 k, [.arr 1 x], [])
 | _, _, _ => .no
def FR57 (x : List Int) (k : Nat) : CallT := fun f args sto => match f with
 | 79 => .is (.os 0 0 k, [.arr 1 (x.map encU)], [])
 | _ => .no
def FR29 (x : List Int) (k : Nat) : CallT := fun f args sto => match f with
 | 57 => .is (.sl (x.map encU), [], [])
 | _ => .no

theorem r30 (s : List Int) (l : List Int) (x : List Int) (r : AV × List Row × List Nat) : (runT Tryd.prog H FR (LR30 x) false 30 [AV.sl (List.map encU s), AV.sl (List.map encI l)] [] fun q => q = r) = (rowsOk 1 (List.map encU s) = true ∧
 (0 = 0 ∧ 0 + List.length (List.map encU s) ≤ 1000000) ∧
 LoopTo Tryd.prog H (H 30) 0 (loopOf Tryd.prog 30 3)
 (mkS 47 [(1, AV.sl (List.map encI l)), (5, AV.os 0 0 (0 + List.length (List.map encU s))), (6, goI 0)]
 [Row.arr 1 ([] ++ List.map encU s)])
 (Ex.exit 0, mkS 47 [(5, AV.os 0 0 (List.length x))] [Row.arr 1 (List.map encU x)]) ∧
 Wf Tryd.prog H 58 [AV.sl (List.take (List.length x) (List.drop 0 (List.map encU x)))] [] =
 some
 (AV.os 0 0 (List.length (U.neatR (List.take (List.length x) (List.drop 0 (List.map encU x))))),
 [Row.arr 1 (U.neatR (List.take (List.length x) (List.drop 0 (List.map encU x))))], []) ∧
 (List.all (U.neatR (List.take (List.length x) (List.drop 0 (List.map encU x)))) fun r => List.all r scalarA) =
 true ∧
 (AV.sl
 (List.take (List.length (U.neatR (List.take (List.length x) (List.drop 0 (List.map encU x)))))
 (List.drop 0 (U.neatR (List.take (List.length x) (List.drop 0 (List.map encU x)))))),
 [], []) =
 r) := by kernel_rfl
theorem r30_3 (l : List Int) (x : List Int) (i : Nat) (r : Ex × St) : (turnT Tryd.prog H FR L0 false (H 30) 0 (loopOf Tryd.prog 30 3)
 (mkS 47 [(1, AV.sl (List.map encI l)), (5, AV.os 0 0 (List.length x)), (6, goI (↑i : Int))]
 [Row.arr 1 (List.map encU x)])
 r) = (TB (decide ((↑i : Int) < (↑(List.length (List.map encI l)) : Int)))
 ((0 ≤ (↑i : Int) ∧ (List.map encI l)[i]? = some [goI (rdI (rowAt (List.map encI l) i) 0)]) ∧
 Wf Tryd.prog H 26
 [AV.sl (List.take (List.length x) (List.drop 0 (List.map encU x))), goI (rdI (rowAt (List.map encI l) i) 0)]
 [] =
 some
 (goB (U.hasW (List.take (List.length x) (List.drop 0 (List.map encU x))) (rdI (rowAt (List.map encI l) i) 0)),
 [], []) ∧
 TB (U.hasW (List.take (List.length x) (List.drop 0 (List.map encU x))) (rdI (rowAt (List.map encI l) i) 0))
 ((0 ≤ (↑i : Int) ∧ (List.map encI l)[i]? = some [goI (rdI (rowAt (List.map encI l) i) 0)]) ∧
 iz 64 ≠ 0 ∧
 (0 ≤ (↑i : Int) ∧ (List.map encI l)[i]? = some [goI (rdI (rowAt (List.map encI l) i) 0)]) ∧
 iz 64 ≠ 0 ∧
 (0 ≤ IntKind.wrap IntKind.i64 (Int.tdiv (rdI (rowAt (List.map encI l) i) 0) 64) ∧
 IntKind.wrap IntKind.i64 (Int.tdiv (rdI (rowAt (List.map encI l) i) 0) 64) <
 (↑(List.length x) : Int) ∧
 0 + Int.toNat (IntKind.wrap IntKind.i64 (Int.tdiv (rdI (rowAt (List.map encI l) i) 0) 64)) <
 List.length (List.map encU x)) ∧
 cutAt 1 0
 (List.map encU
 x)[0 +
 Int.toNat (IntKind.wrap IntKind.i64 (Int.tdiv (rdI (rowAt (List.map encI l) i) 0) 64))]? =
 some
 [AV.v
 (Value.int IntKind.u64
 (rdI
 (rowAt (List.map encU x)
 (0 +
 Int.toNat
 (IntKind.wrap IntKind.i64 (Int.tdiv (rdI (rowAt (List.map encI l) i) 0) 64))))
 0))] ∧
 (0 ≤ (↑i : Int) ∧ (List.map encI l)[i]? = some [goI (rdI (rowAt (List.map encI l) i) 0)]) ∧
 iz 64 ≠ 0 ∧
 0 ≤ IntKind.wrap IntKind.u64 (Int.tmod (rdI (rowAt (List.map encI l) i) 0) 64) ∧
 (0 ≤ IntKind.wrap IntKind.i64 (Int.tdiv (rdI (rowAt (List.map encI l) i) 0) 64) ∧
 IntKind.wrap IntKind.i64 (Int.tdiv (rdI (rowAt (List.map encI l) i) 0) 64) <
 (↑(List.length x) : Int) ∧
 0 +
 Int.toNat
 (IntKind.wrap IntKind.i64 (Int.tdiv (rdI (rowAt (List.map encI l) i) 0) 64)) <
 List.length (List.map encU x)) ∧
 Option.map List.length
 (List.map encU
 x)[0 +
 Int.toNat
 (IntKind.wrap IntKind.i64 (Int.tdiv (rdI (rowAt (List.map encI l) i) 0) 64))]? =
 some 1 ∧
 LoopTo Tryd.prog H (H 30) 0 (loopOf Tryd.prog 30 3)
 (mkS 47
 [(1, AV.sl (List.map encI l)), (5, AV.os 0 0 (List.length x)),
 (6, goI (IntKind.wrap IntKind.i64 ((↑i : Int) + 1)))]
 [Row.arr 1
 (List.set (List.map encU x)
 (0 +
 Int.toNat
 (IntKind.wrap IntKind.i64
 (Int.tdiv (rdI (rowAt (List.map encI l) i) 0) 64)))
 [AV.v
 (Value.int IntKind.u64
 (IntKind.wrap IntKind.u64
 (rdI
 (rowAt (List.map encU x)
 (0 +
 Int.toNat
 (IntKind.wrap IntKind.i64
 (Int.tdiv (rdI (rowAt (List.map encI l) i) 0) 64))))
 0 -
 shlI IntKind.u64 1
 (IntKind.wrap IntKind.u64
 (Int.tmod (rdI (rowAt (List.map encI l) i) 0) 64)))))])])
 r)
 (LoopTo Tryd.prog H (H 30) 0 (loopOf Tryd.prog 30 3)
 (mkS 47
 [(1, AV.sl (List.map encI l)), (5, AV.os 0 0 (List.length x)),
 (6, goI (IntKind.wrap IntKind.i64 ((↑i : Int) + 1)))]
 [Row.arr 1 (List.map encU x)])
 r))
 ((Ex.exit 0, mkS 47 [(5, AV.os 0 0 (List.length x))] [Row.arr 1 (List.map encU x)]) = r)) := by kernel_rfl
theorem r80 (a : Int) (b : Int) (r : AV × List Row × List Nat) : (runT Tryd.prog H (fun f args sto => CT.of (F0 f args sto)) L0 false 80 [goU a, goU b] [] fun q => q = r) = ((AV.v (Value.int IntKind.u64 (bitI BinOp.andNot IntKind.u64 a b)), [], []) = r) := by kernel_rfl
theorem r79 (a : List Int) (b : List Int) (x : List Int) (k : Nat) (r : AV × List Row × List Nat) : (runT Tryd.prog H (FR79 k) (LB79 x) false 79 [AV.sl (List.map encU a), AV.sl (List.map encU b), AV.clo 80 []] [] fun q =>
 q = r) = (((0 ≤
 if true = true then
 if (↑(List.length (List.map encU a)) : Int) < (↑(List.length (List.map encU b)) : Int) then
 (↑(List.length (List.map encU b)) : Int)
 else (↑(List.length (List.map encU a)) : Int)
 else
 if (↑(List.length (List.map encU b)) : Int) < (↑(List.length (List.map encU a)) : Int) then
 (↑(List.length (List.map encU b)) : Int)
 else (↑(List.length (List.map encU a)) : Int)) ∧
 ((if true = true then
 if (↑(List.length (List.map encU a)) : Int) < (↑(List.length (List.map encU b)) : Int) then
 (↑(List.length (List.map encU b)) : Int)
 else (↑(List.length (List.map encU a)) : Int)
 else
 if (↑(List.length (List.map encU b)) : Int) < (↑(List.length (List.map encU a)) : Int) then
 (↑(List.length (List.map encU b)) : Int)
 else (↑(List.length (List.map encU a)) : Int)) ≤
 if true = true then
 if (↑(List.length (List.map encU a)) : Int) < (↑(List.length (List.map encU b)) : Int) then
 (↑(List.length (List.map encU b)) : Int)
 else (↑(List.length (List.map encU a)) : Int)
 else
 if (↑(List.length (List.map encU b)) : Int) < (↑(List.length (List.map encU a)) : Int) then
 (↑(List.length (List.map encU b)) : Int)
 else (↑(List.length (List.map encU a)) : Int)) ∧
 (if true = true then
 if (↑(List.length (List.map encU a)) : Int) < (↑(List.length (List.map encU b)) : Int) then
 (↑(List.length (List.map encU b)) : Int)
 else (↑(List.length (List.map encU a)) : Int)
 else
 if (↑(List.length (List.map encU b)) : Int) < (↑(List.length (List.map encU a)) : Int) then
 (↑(List.length (List.map encU b)) : Int)
 else (↑(List.length (List.map encU a)) : Int)) ≤
 (↑1000000 : Int)) ∧
 rowsOk 1 (List.map encU a) = true ∧
 LoopTo Tryd.prog H (H 79) 0 (loopOf Tryd.prog 79 4)
 (mkS 45
 [(1, AV.sl (List.map encU b)), (2, AV.clo 80 []),
 (7,
 AV.os 0 0
 (List.length
 (List.replicate
 (Int.toNat
 (if true = true then
 if (↑(List.length (List.map encU a)) : Int) < (↑(List.length (List.map encU b)) : Int) then
 (↑(List.length (List.map encU b)) : Int)
 else (↑(List.length (List.map encU a)) : Int)
 else
 if (↑(List.length (List.map encU b)) : Int) < (↑(List.length (List.map encU a)) : Int) then
 (↑(List.length (List.map encU b)) : Int)
 else (↑(List.length (List.map encU a)) : Int)))
 [AV.v (Value.int IntKind.u64 0)]))),
 (20,
 goI
 (↑(List.length
 (List.replicate
 (Int.toNat
 (if true = true then
 if (↑(List.length (List.map encU a)) : Int) < (↑(List.length (List.map encU b)) : Int) then
 (↑(List.length (List.map encU b)) : Int)
 else (↑(List.length (List.map encU a)) : Int)
 else
 if (↑(List.length (List.map encU b)) : Int) < (↑(List.length (List.map encU a)) : Int) then
 (↑(List.length (List.map encU b)) : Int)
 else (↑(List.length (List.map encU a)) : Int)))
 [AV.v (Value.int IntKind.u64 0)])) :
 Int)),
 (21, goI 0)]
 [Row.arr 1
 ([] ++
 List.take
 (List.length
 (List.replicate
 (Int.toNat
 (if true = true then
 if (↑(List.length (List.map encU a)) : Int) < (↑(List.length (List.map encU b)) : Int) then
 (↑(List.length (List.map encU b)) : Int)
 else (↑(List.length (List.map encU a)) : Int)
 else
 if (↑(List.length (List.map encU b)) : Int) < (↑(List.length (List.map encU a)) : Int) then
 (↑(List.length (List.map encU b)) : Int)
 else (↑(List.length (List.map encU a)) : Int)))
 [AV.v (Value.int IntKind.u64 0)]))
 (List.map encU a) ++
 List.drop
 (0 +
 min (List.length (List.map encU a))
 (List.length
 (List.replicate
 (Int.toNat
 (if true = true then
 if
 (↑(List.length (List.map encU a)) : Int) <
 (↑(List.length (List.map encU b)) : Int) then
 (↑(List.length (List.map encU b)) : Int)
 else (↑(List.length (List.map encU a)) : Int)
 else
 if
 (↑(List.length (List.map encU b)) : Int) <
 (↑(List.length (List.map encU a)) : Int) then
 (↑(List.length (List.map encU b)) : Int)
 else (↑(List.length (List.map encU a)) : Int)))
 [AV.v (Value.int IntKind.u64 0)])))
 (List.replicate
 (Int.toNat
 (if true = true then
 if (↑(List.length (List.map encU a)) : Int) < (↑(List.length (List.map encU b)) : Int) then
 (↑(List.length (List.map encU b)) : Int)
 else (↑(List.length (List.map encU a)) : Int)
 else
 if (↑(List.length (List.map encU b)) : Int) < (↑(List.length (List.map encU a)) : Int) then
 (↑(List.length (List.map encU b)) : Int)
 else (↑(List.length (List.map encU a)) : Int)))
 [AV.v (Value.int IntKind.u64 0)]))])
 (Ex.exit 0, mkS 45 [(7, AV.os 0 0 (List.length x))] [Row.arr 1 (List.map encU x)]) ∧
 Wf Tryd.prog H 50 [AV.os 0 0 (List.length x)] [Row.arr 1 (List.map encU x)] =
 some (AV.os 0 0 k, [Row.arr 1 (List.map encU x)], []) ∧
 (AV.os 0 0 k, [Row.arr 1 (List.map encU x)], []) = r) := by kernel_rfl
theorem r79_4 (b : List Int) (x : List Int) (n : Int) (i : Nat) (r : Ex × St) : (turnT Tryd.prog H (FR79 0) L0 false (H 79) 0 (loopOf Tryd.prog 79 4)
 (mkS 45
 [(1, AV.sl (List.map encU b)), (2, AV.clo 80 []), (7, AV.os 0 0 (List.length x)), (20, goI n), (21, goI (↑i : Int))]
 [Row.arr 1 (List.map encU x)])
 r) = (TB (decide ((↑i : Int) < n))
 (TB (decide ((↑i : Int) < (↑(List.length (List.map encU b)) : Int)))
 ((0 ≤ (↑i : Int) ∧
 (List.map encU b)[i]? = some [AV.v (Value.int IntKind.u64 (rdI (rowAt (List.map encU b) i) 0))]) ∧
 (0 ≤ (↑i : Int) ∧ (↑i : Int) < (↑(List.length x) : Int) ∧ 0 + i < List.length (List.map encU x)) ∧
 cutAt 1 0 (List.map encU x)[0 + i]? =
 some [AV.v (Value.int IntKind.u64 (rdI (rowAt (List.map encU x) (0 + i)) 0))] ∧
 Wf Tryd.prog H 80
 [AV.v (Value.int IntKind.u64 (rdI (rowAt (List.map encU x) (0 + i)) 0)),
 AV.v (Value.int IntKind.u64 (rdI (rowAt (List.map encU b) i) 0))]
 [] =
 some
 (AV.v
 (Value.int IntKind.u64
 (U.lessW (rdI (rowAt (List.map encU x) (0 + i)) 0) (rdI (rowAt (List.map encU b) i) 0))),
 [], []) ∧
 (0 ≤ (↑i : Int) ∧ (↑i : Int) < (↑(List.length x) : Int) ∧ 0 + i < List.length (List.map encU x)) ∧
 Option.map List.length (List.map encU x)[0 + i]? = some 1 ∧
 LoopTo Tryd.prog H (H 79) 0 (loopOf Tryd.prog 79 4)
 (mkS 45
 [(1, AV.sl (List.map encU b)), (2, AV.clo 80 []), (7, AV.os 0 0 (List.length x)), (20, goI n),
 (21, goI (IntKind.wrap IntKind.i64 ((↑i : Int) + 1)))]
 [Row.arr 1
 (List.set (List.map encU x) (0 + i)
 [AV.v
 (Value.int IntKind.u64
 (U.lessW (rdI (rowAt (List.map encU x) (0 + i)) 0)
 (rdI (rowAt (List.map encU b) i) 0)))])])
 r)
 ((0 ≤ (↑i : Int) ∧ (↑i : Int) < (↑(List.length x) : Int) ∧ 0 + i < List.length (List.map encU x)) ∧
 cutAt 1 0 (List.map encU x)[0 + i]? =
 some [AV.v (Value.int IntKind.u64 (rdI (rowAt (List.map encU x) (0 + i)) 0))] ∧
 Wf Tryd.prog H 80
 [AV.v (Value.int IntKind.u64 (rdI (rowAt (List.map encU x) (0 + i)) 0)), AV.v (Value.int IntKind.u64 0)]
 [] =
 some (AV.v (Value.int IntKind.u64 (U.lessW (rdI (rowAt (List.map encU x) (0 + i)) 0) 0)), [], []) ∧
 (0 ≤ (↑i : Int) ∧ (↑i : Int) < (↑(List.length x) : Int) ∧ 0 + i < List.length (List.map encU x)) ∧
 Option.map List.length (List.map encU x)[0 + i]? = some 1 ∧
 LoopTo Tryd.prog H (H 79) 0 (loopOf Tryd.prog 79 4)
 (mkS 45
 [(1, AV.sl (List.map encU b)), (2, AV.clo 80 []), (7, AV.os 0 0 (List.length x)), (20, goI n),
 (21, goI (IntKind.wrap IntKind.i64 ((↑i : Int) + 1)))]
 [Row.arr 1
 (List.set (List.map encU x) (0 + i)
 [AV.v (Value.int IntKind.u64 (U.lessW (rdI (rowAt (List.map encU x) (0 + i)) 0) 0))])])
 r))
 ((Ex.exit 0, mkS 45 [(7, AV.os 0 0 (List.length x))] [Row.arr 1 (List.map encU x)]) = r)) := by kernel_rfl
theorem r57 (a : List Int) (b : List Int) (x : List Int) (k : Nat) (r : AV × List Row × List Nat) : (runT Tryd.prog H (FR57 x k) L0 false 57 [AV.sl (List.map encU a), AV.sl (List.map encU b)] [] fun q => q = r) = (Wf Tryd.prog H 79 [AV.sl (List.map encU a), AV.sl (List.map encU b), AV.clo 80 []] [] =
 some (AV.os 0 0 k, [Row.arr 1 (List.map encU x)], []) ∧
 (AV.sl (List.take k (List.drop 0 (List.map encU x))), [], []) = r) := by kernel_rfl
theorem r29 (a : List Int) (b : List Int) (x : List Int) (k : Nat) (r : AV × List Row × List Nat) : (runT Tryd.prog H (FR29 x k) L0 false 29 [AV.sl (List.map encU a), AV.sl (List.map encU b)] [] fun q => q = r) = (Wf Tryd.prog H 57 [AV.sl (List.map encU b), AV.sl (List.map encU a)] [] = some (AV.sl (List.map encU x), [], []) ∧
 (goB ((↑(List.length (List.map encU x)) : Int) == 0), [], []) = r) := by kernel_rfl
theorem wr80 (a b : Int) : Wf Tryd.prog H 80 [goU a, goU b] [] = some (goU (U.lessW a b), [], []) := runK (r80 a b _) rfl
theorem loopr79 (b : List Int) (N : Nat) (hN : N < 1000000) : ∀ (d i : Nat) (x : List Int), i + d = N → x.length = N →
    ∃ x', LoopTo Tryd.prog H (H 79) 0 (loopOf Tryd.prog 79 4) (mkS 45 [(1, .sl (b.map encU)), (2, .clo 80 []), (7, .os 0 0 x.length), (20, goI N), (21, goI i)] [.arr 1 (x.map encU)])
      (.exit 0, mkS 45 [(7, .os 0 0 x'.length)] [.arr 1 (x'.map encU)]) ∧ x'.length = N ∧ ∀ j, j < N → wd x' j = if i ≤ j then Bit.lessI (wd x j) (wd b j) else wd x j
  | 0, i, x, hd, hx => by
    refine ⟨x, turnK (r79_4 b x N i _) ?_, hx, fun j hj => by rw [if_neg (by omega)]⟩
    rw [decide_eq_false (by omega)]; exact rfl
  | d + 1, i, x, hd, hx => by
    have hi : i < x.length := by omega
    obtain ⟨r1, r2⟩ := rowU hi
    have hin : 0 ≤ (i : Int) ∧ (i : Int) < (x.length : Int) ∧ i < (x.map encU).length := ⟨by omega, by omega, by rw [List.length_map]; omega⟩
    obtain ⟨x', h1, h2, h3⟩ := loopr79 b N hN d (i + 1) (x.set i (Bit.lessI (wd x i) (wd b i))) (by omega) (by rw [List.length_set]; exact hx)
    have hset : ∀ j, wd (x.set i (Bit.lessI (wd x i) (wd b i))) j = if j = i then Bit.lessI (wd x i) (wd b i) else wd x j := fun j => getD_set x i j _ hi
    refine ⟨x', turnK (r79_4 b x N i _) ?_, h2, fun j hj => ?_⟩
    · have elen : (b.map encU).length = b.length := List.length_map _
      rw [List.length_set] at h1
      rw [decide_eq_true (by omega), Nat.zero_add, r1, r2, elen, wrapS (show i < N by omega) hN]
      by_cases hb : i < b.length
      · obtain ⟨s1, s2⟩ := rowU hb
        rw [decide_eq_true (by omega), s1, s2]
        refine ⟨⟨by omega, rfl⟩, hin, rfl, wr80 _ _, hin, rfl, ?_⟩
        have e5 : (x.map encU).set i [AV.v (.int .u64 (U.lessW (wd x i) (wd b i)))] = (x.set i (Bit.lessI (wd x i) (wd b i))).map encU := set_mapU _ _ _
        rw [e5]
        exact h1
      · have hz : wd b i = 0 := by unfold wd; rw [List.getD_eq_getElem?_getD, List.getElem?_eq_none (by omega)]; rfl
        rw [hz] at h1
        rw [decide_eq_false (by omega)]
        refine ⟨hin, rfl, wr80 _ _, hin, rfl, ?_⟩
        have e5 : (x.map encU).set i [AV.v (.int .u64 (U.lessW (wd x i) 0))] = (x.set i (Bit.lessI (wd x i) 0)).map encU := set_mapU _ _ _
        rw [e5]
        exact h1
    · rw [h3 j hj, hset j]
      by_cases e : j = i
      · subst e; rw [if_neg (by omega), if_pos rfl, if_pos (Nat.le_refl _)]
      · rw [if_neg e]
        by_cases e2 : i ≤ j
        · rw [if_pos (by omega), if_pos e2]
        · rw [if_neg (by omega), if_neg e2]
theorem wr79 (a b : List Int) (ha : a.length ≤ 1000) (hb : b.length ≤ 1000) : Wf Tryd.prog H 79 [.sl (a.map encU), .sl (b.map encU), .clo 80 []] [] = some (.os 0 0 (Bit.opL Bit.lessI a b).length, [.arr 1 ((Bit.zipL Bit.lessI a b).map encU)], []) := by
  have e1 : (a.map encU).length = a.length := List.length_map _
  have e2 : (b.map encU).length = b.length := List.length_map _
  have ez := Bit.zipL_length Bit.lessI a b
  obtain ⟨x', h1, h2, h3⟩ := loopr79 b (max a.length b.length) (by omega) (max a.length b.length) 0 (a ++ List.replicate (max a.length b.length - a.length) 0) (by omega) (by simp; omega)
  have hx' : x' = Bit.zipL Bit.lessI a b := wd_ext (by rw [h2, ez]) (fun i hi => by
    rw [h3 i (by omega), if_pos (Nat.zero_le _)]
    have hz := Bit.zipL_getD Bit.lessI (by decide) a b i
    refine Eq.trans ?_ hz.symm
    unfold wd
    congr 1
    rw [List.getD_eq_getElem?_getD, List.getD_eq_getElem?_getD, List.getElem?_append]
    split
    · rfl
    · rw [List.getElem?_replicate, List.getElem?_eq_none (by omega)]
      split <;> rfl)
  subst hx'
  refine runK (r79 a b (Bit.zipL Bit.lessI a b) (Bit.opL Bit.lessI a b).length _) ?_
  have emax : (if true = true then if ((a.length : Nat) : Int) < (b.length : Int) then (b.length : Int) else (a.length : Int) else if (b.length : Int) < (a.length : Int) then (b.length : Int) else (a.length : Int)) = ((max a.length b.length : Nat) : Int) := by
    rw [if_pos rfl]
    split <;> omega
  rw [e1, e2, emax, Int.toNat_natCast, List.length_replicate]
  have erow : [] ++ List.take (max a.length b.length) (a.map encU) ++ List.drop (0 + min a.length (max a.length b.length)) (List.replicate (max a.length b.length) [AV.v (.int .u64 0)]) = (a ++ List.replicate (max a.length b.length - a.length) 0).map encU := by
    rw [List.nil_append, List.take_of_length_le (by rw [List.length_map]; omega), Nat.min_eq_left (by omega), Nat.zero_add, List.map_append, List.map_replicate, List.drop_replicate]
    rfl
  rw [erow]
  have hlen9 : (a ++ List.replicate (max a.length b.length - a.length) (0 : Int)).length = max a.length b.length := by rw [List.length_append, List.length_replicate]; omega
  rw [hlen9] at h1
  exact ⟨⟨by omega, by omega, by omega⟩, rowsOkU a, h1, wb50 _ (by omega), rfl⟩
theorem lessL_len (a b : List Int) (ha : a.length ≤ 1000) (hb : b.length ≤ 1000) : (Bit.opL Bit.lessI a b).length ≤ 1000 := by
  have := Bit.opL_length Bit.lessI a b
  omega
theorem wr57 (a b : List Int) (ha : a.length ≤ 1000) (hb : b.length ≤ 1000) : Wf Tryd.prog H 57 [.sl (a.map encU), .sl (b.map encU)] [] = some (.sl ((Bit.opL Bit.lessI a b).map encU), [], []) := by
  have e : List.take (Bit.opL Bit.lessI a b).length (List.drop 0 ((Bit.zipL Bit.lessI a b).map encU)) = (Bit.opL Bit.lessI a b).map encU := by
    rw [take_mapU]; unfold Bit.opL; rw [neat_take]
  refine runK (r57 a b (Bit.zipL Bit.lessI a b) (Bit.opL Bit.lessI a b).length _) ?_
  rw [e]
  exact ⟨wr79 a b ha hb, rfl⟩
/-- All of the second one in the first one. -/
theorem wr29 {a b : List Int} (ha : a.length ≤ 1000) (hb : b.length ≤ 1000) (wa : Bit.Wd a) (wb : Bit.Wd b) (h : ∀ v, Bit.tb b v = true → Bit.tb a v = true) : Wf Tryd.prog H 29 [.sl (a.map encU), .sl (b.map encU)] [] = some (goB true, [], []) := by
  have h57 := wr57 b a hb ha
  have he : Bit.opL Bit.lessI b a = [] := by
    have hw : Bit.Wd (Bit.opL Bit.lessI b a) := Bit.zip_Wd (fun x y hx hy => Bit.less_word2 hx hy) wb wa
    have h1 := Bit.empty_tb hw (fun n => by
      rw [Bit.tb_less wb wa n]
      cases hq : Bit.tb b n with
      | false => rfl
      | true => rw [h n hq]; rfl)
    rw [Bit.opL_neat] at h1
    exact h1
  rw [he] at h57
  exact runK (r29 a b [] 0 _) ⟨h57, rfl⟩
theorem sub_bit {x b : Nat} (h : x.testBit b = true) (j : Nat) : (x - 2 ^ b).testBit j = (x.testBit j && !(2 ^ b).testBit j) := by
  have hp : 0 < 2 ^ b := Nat.two_pow_pos b
  rw [Nat.testBit_eq_decide_div_mod_eq, decide_eq_true_iff] at h
  obtain ⟨m, hm⟩ : ∃ m, x / 2 ^ b = 2 * m + 1 := ⟨x / 2 ^ b / 2, by omega⟩
  have hx : x = 2 ^ b * (2 * m + 1) + x % 2 ^ b := by rw [← hm]; exact (Nat.div_add_mod x (2 ^ b)).symm
  have hlow : x % 2 ^ b < 2 ^ b := Nat.mod_lt _ hp
  generalize x % 2 ^ b = low at *
  have hs : x - 2 ^ b = 2 ^ b * (2 * m) + low := by rw [hx, Nat.mul_add]; omega
  rw [hs, hx, Nat.testBit_two_pow_mul_add _ hlow, Nat.testBit_two_pow_mul_add _ hlow, Nat.testBit_two_pow]
  by_cases hj : j < b
  · rw [if_pos hj, if_pos hj, decide_eq_false (by omega)]; simp
  · rw [if_neg hj, if_neg hj]
    rcases Nat.eq_or_lt_of_le (Nat.le_of_not_lt hj) with e | e
    · subst e
      rw [Nat.sub_self, Nat.testBit_zero, Nat.testBit_zero]
      simp
    · obtain ⟨i, hi⟩ : ∃ i, j - b = i + 1 := ⟨j - b - 1, by omega⟩
      rw [hi, Nat.testBit_succ, Nat.testBit_succ, decide_eq_false (by omega), Bool.not_false, Bool.and_true]
      congr 1
      omega
theorem sub_word {x : Int} (hx : 0 ≤ x ∧ x < 18446744073709551616) {b : Nat} (hb : b < 64) (h : x.toNat.testBit b = true) : IntKind.u64.wrap (x - ((2 ^ b : Nat) : Int)) = Bit.bitsU .andNot x ((2 ^ b : Nat) : Int) := by
  have hp := Bit.pow_lt hb
  obtain ⟨n0, _, nt⟩ := Bit.bits_andNot hx ⟨Int.natCast_nonneg (2 ^ b), Bit.lt_cast hp⟩
  have hle : 2 ^ b ≤ x.toNat := Nat.ge_two_pow_of_testBit h
  have e : (Bit.bitsU .andNot x ((2 ^ b : Nat) : Int)).toNat = x.toNat - 2 ^ b := by
    refine Nat.eq_of_testBit_eq fun j => ?_
    rw [nt, sub_bit h, Int.toNat_natCast]
  generalize Bit.bitsU .andNot x ((2 ^ b : Nat) : Int) = y at *
  generalize (2 ^ b : Nat) = p at *
  rw [Bit.wrapU (by omega) (by omega)]
  omega
theorem loopr30 (l : List Int) (hl : l.length < 1000000) (hr : ∀ n ∈ l, n < 9223372036854775808) : ∀ (d i : Nat) (x : List Int), i + d = l.length → Bit.Wd x → x.length ≤ 1000 →
    LoopTo Tryd.prog H (H 30) 0 (loopOf Tryd.prog 30 3) (mkS 47 [(1, .sl (l.map encI)), (5, .os 0 0 x.length), (6, goI i)] [.arr 1 (x.map encU)])
      (.exit 0, mkS 47 [(5, .os 0 0 ((l.drop i).foldl Bit.dropL x).length)] [.arr 1 (((l.drop i).foldl Bit.dropL x).map encU)])
  | 0, i, x, hd, hw, hx => by
    rw [List.drop_of_length_le (by omega)]
    refine turnK (r30_3 l x i _) ?_
    rw [List.length_map, decide_eq_false (by omega)]; exact rfl
  | d + 1, i, x, hd, hw, hx => by
    have hi : i < l.length := by omega
    have ed : l.drop i = U.nt l i :: l.drop (i + 1) := drop_cons' l hi
    have e1 : rdI (rowAt (l.map encI) i) 0 = U.nt l i := by rw [rowI hi]; rfl
    have hn := hr (U.nt l i) (getD_mem hi)
    have hdl := Bit.dropL_length x (U.nt l i)
    have ih := loopr30 l hl hr d (i + 1) (Bit.dropL x (U.nt l i)) (by omega) (Bit.dropL_Wd hw _) (by omega)
    rw [ed, List.foldl_cons]
    have h26 := wr26 hw (U.nt l i) hn (by omega)
    refine turnK (r30_3 l x i _) ?_
    rw [List.length_map, decide_eq_true (by omega), e1, getI hi, wrapS hi hl, take_map, hasW_map]
    refine ⟨⟨by omega, rfl⟩, h26, ?_⟩
    generalize U.nt l i = n at *
    cases hb : Bit.hasB x n with
    | false =>
      have : Bit.dropL x n = x := by unfold Bit.dropL; rw [if_neg (by rw [hb]; simp)]
      rw [this] at ih ⊢
      exact ih
    | true =>
      obtain ⟨h0, hlt⟩ := Bit.hasB_lt hb
      have eq : IntKind.i64.wrap (Int.tdiv n 64) = ((n.toNat / 64 : Nat) : Int) := by
        rw [Int.tdiv_eq_ediv_of_nonneg (by omega), wrap64 (by omega) (by omega)]; omega
      have e5 : shlI IntKind.u64 1 ((n.toNat % 64 : Nat) : Int) = ((2 ^ (n.toNat % 64) : Nat) : Int) := by
        have := Bit.shl_one (j := ((n.toNat % 64 : Nat) : Int)) (by omega) (by omega)
        rw [Int.toNat_natCast] at this
        exact this
      obtain ⟨r1, r2⟩ := rowU (l := x) (i := n.toNat / 64) hlt
      have hbit : (wd x (n.toNat / 64)).toNat.testBit (n.toNat % 64) = true := by
        unfold Bit.hasB Bit.tb at hb
        rw [Bool.and_eq_true] at hb
        exact hb.2
      have hsub : IntKind.u64.wrap (wd x (n.toNat / 64) - ((2 ^ (n.toNat % 64) : Nat) : Int)) = Bit.bitsU .andNot (wd x (n.toNat / 64)) ((2 ^ (n.toNat % 64) : Nat) : Int) := sub_word (hw.getD _) (by omega) hbit
      rw [eq, tmodU (show 0 ≤ n by omega), Int.toNat_natCast, Nat.zero_add, r1, r2, e5, hsub]
      have hdr : Bit.dropL x n = x.set (n.toNat / 64) (Bit.bitsU .andNot (x.getD (n.toNat / 64) 0) ((2 ^ (n.toNat % 64) : Nat) : Int)) := by unfold Bit.dropL; rw [if_pos hb]
      have eset : (x.map encU).set (n.toNat / 64) [AV.v (.int .u64 (Bit.bitsU .andNot (wd x (n.toNat / 64)) ((2 ^ (n.toNat % 64) : Nat) : Int)))] = (Bit.dropL x n).map encU := by rw [hdr]; exact set_mapU _ _ _
      rw [eset]
      rw [hdl] at ih
      have hin : 0 ≤ ((n.toNat / 64 : Nat) : Int) ∧ ((n.toNat / 64 : Nat) : Int) < (x.length : Int) ∧ n.toNat / 64 < (x.map encU).length := ⟨by omega, by omega, by rw [List.length_map]; omega⟩
      exact ⟨⟨by omega, rfl⟩, iz64, ⟨by omega, rfl⟩, iz64, hin, rfl, ⟨by omega, rfl⟩, iz64, by omega, hin, rfl, ih⟩
theorem wr30 (s l : List Int) (hw : Bit.Wd s) (hs : s.length ≤ 1000) (hl : l.length < 1000000) (hr : ∀ n ∈ l, n < 9223372036854775808) : Wf Tryd.prog H 30 [.sl (s.map encU), .sl (l.map encI)] [] = some (.sl ((U.withoutL s l).map encU), [], []) := by
  have h := loopr30 l hl hr l.length 0 s (by omega) hw hs
  rw [List.drop_zero] at h
  have hx := drops_len l s
  have hn := wr58 (l.foldl Bit.dropL s) (by omega)
  refine runK (r30 s l (l.foldl Bit.dropL s) _) ?_
  rw [List.length_map, Nat.zero_add, List.nil_append, take_map, neatR_map, take_all, List.length_map]
  exact ⟨rowsOkU s, ⟨rfl, by omega⟩, h, hn, scalU _, rfl⟩
end Go.Proofs.YtdnekkkpngnmkaaDoor.E
