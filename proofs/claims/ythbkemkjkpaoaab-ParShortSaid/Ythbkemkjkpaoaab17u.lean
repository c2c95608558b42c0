/- Functions, by what the evaluator asks; the theorems t.. were printed by show.txt, a program of this session. -/
import Derived.Test.Ythbkemkjkpaoaab17t
set_option linter.unusedVariables false
set_option linter.unusedSimpArgs false
set_option maxRecDepth 100000
namespace Go.Proofs.Ythbkemkjkpaoaab.E
open Go
def F4 (n : Nat) (zs : List (List AV)) : CallF := fun f args sto => match f with
 | 8 => some (goB true, [], [])
 | 15 => some (.os 0 0 n, [.arr 1 zs], [])
 | 16 => some (.os 0 0 n, [.arr 1 zs], [])
 | 14 => some (goB true, [], [])
 | _ => none
def F7 (no : Bool) (n : Nat) (zs : List (List AV)) : CallF := fun f args sto => match f with
 | 8 => some (goB true, [], [])
 | 9 => if no then some (.tup [.sl [], goI 1], [], []) else some (.tup [.os 0 0 n, goI 0], [.arr 4 zs], [])
 | _ => none
def L7 (x : Loc) (o : List (List AV)) (a b : Int) : Nat → St → LT := fun id st => match id with
 | 10 => .is (.exit 0) (mkS 73 [(3, .pt 0 0 0), (5, .sl o), (7, goI a), (8, goI 0)] [.box (encL x)])
 | 15 => .is (.exit 2) (mkS 73 [(5, .sl o), (7, goI a), (8, goI b)] [.box (encL x)])
 | _ => .no
namespace U
def decM (xs : List (List AV)) : List Mv := xs.map fun r => ⟨⟨rdI r 0, rdI r 1⟩, ⟨rdI r 2, rdI r 3⟩⟩
def decL (xs : List (List AV)) : List Loc := xs.map fun r => ⟨rdI r 0, rdI r 1⟩
def refR (xs : List (List AV)) (k n : Int) : Bool := refused (decM xs) ⟨k, n⟩
def ordR (xs : List (List AV)) (k n : Int) : List (List AV) := (ordered (decM xs) ⟨k, n⟩).map encM
def rightR (xs : List (List AV)) : Bool := right (decM xs) 0
def hasR (xs : List (List AV)) (k n : Int) : Bool := hasFrom (decL xs) ⟨k, n⟩ 0
def sameR (xs ys : List (List AV)) : Bool := decide ((decM xs).length = (decM ys).length) && same (decM xs) (decM ys) 0
end U
def F6 : CallT := fun f args sto => match f, args with
 | 8, _ => .is (goB true, [], [])
 | 9, [.sl xs, .agg [.v (.int _ k), .v (.int _ n)]] => .by (U.refR xs k n) (.is (.tup [.sl [], goI 1], [], [])) (.is (.tup [.os 0 0 (U.ordR xs k n).length, goI 0], [.arr 4 (U.ordR xs k n)], []))
 | 12, [.sl xs] => .is (goB (U.rightR xs), [], [])
 | 17, [.agg [.v (.int _ k), .v (.int _ n)]] => .is (goB (U.may k n), [], [])
 | 18, [.sl xs, .agg [.v (.int _ k), .v (.int _ n)]] => .is (goB (U.hasR xs k n), [], [])
 | 11, [.sl xs, .sl ys] => .is (goB (U.sameR xs ys), [], [])
 | _, _ => .no
def L6 (x : Loc) (l : List Loc) (ms : List (List AV)) : Nat → St → LT := fun id st => match id with
 | 7 => .is (.exit 0) (mkS 105 [(0, .sl (l.map encL)), (3, .pt 0 0 0), (5, .os 2 0 ms.length)] [.box (encL x), .dead, .arr 4 ms])
 | _ => .no

theorem t4 (l : List Mv) (at_ : List Loc) (hs : List Int) (n : Nat) (zs : List (List AV)) (r : AV × List Row × List Nat) : (runT Try.prog H (fun f args sto => CT.of (F4 n zs f args sto)) L0 false 4
  [AV.sl (List.map encM l), AV.sl (List.map encL at_), AV.sl (List.map encI hs)] [] fun q => q = r) = (Wf Try.prog H 8 [] [] = some (goB true, [], []) ∧
  TB (decide ((↑(List.length (List.map encM l)) : Int) > 60)) ((goB true, [], []) = r)
    (TB (decide ((↑(List.length (List.map encL at_)) : Int) > 60)) ((goB true, [], []) = r)
      (TB (decide ((↑(List.length (List.map encI hs)) : Int) > 100)) ((goB true, [], []) = r)
        (Wf Try.prog H 15 [AV.sl (List.map encM l), AV.sl (List.map encL at_), AV.sl (List.map encI hs)] [] =
            some (AV.os 0 0 n, [Row.arr 1 zs], []) ∧
          Wf Try.prog H 16 [AV.sl (List.map encM l), AV.sl (List.map encL at_), AV.sl (List.map encI hs)] [] =
              some (AV.os 0 0 n, [Row.arr 1 zs], []) ∧
            Wf Try.prog H 14 [AV.sl (List.take n (List.drop 0 zs)), AV.sl (List.take n (List.drop 0 zs))] [] =
                some (goB true, [], []) ∧
              (goB true, [], []) = r)))) := by kernel_rfl
theorem t7a (l : List Mv) (x : Loc) (r : AV × List Row × List Nat) : (runT Try.prog H (fun f args sto => CT.of (F7 true 0 [] f args sto)) L0 false 7
  [AV.sl (List.map encM l), AV.agg (encL x)] [] fun q => q = r) = (Wf Try.prog H 8 [] [] = some (goB true, [], []) ∧
  TB (decide ((↑(List.length (List.map encM l)) : Int) > 40)) ((goB true, [], []) = r)
    (Wf Try.prog H 9 [AV.sl (List.map encM l), AV.agg [goI x.1, goI x.2]] [] = some (AV.tup [AV.sl [], goI 1], [], []) ∧
      (goB true, [], []) = r)) := by kernel_rfl
theorem t7b (l : List Mv) (x : Loc) (n : Nat) (zs : List (List AV)) (a : Int) (b : Int) (r : AV × List Row × List Nat) : (runT Try.prog H (fun f args sto => CT.of (F7 false n zs f args sto)) (L7 x (List.take n (List.drop 0 zs)) a b) false 7
  [AV.sl (List.map encM l), AV.agg (encL x)] [] fun q => q = r) = (Wf Try.prog H 8 [] [] = some (goB true, [], []) ∧
  TB (decide ((↑(List.length (List.map encM l)) : Int) > 40)) ((goB true, [], []) = r)
    (Wf Try.prog H 9 [AV.sl (List.map encM l), AV.agg [goI x.1, goI x.2]] [] =
        some (AV.tup [AV.os 0 0 n, goI 0], [Row.arr 4 zs], []) ∧
      LoopTo Try.prog H (H 7) 0 (loopOf Try.prog 7 10)
          (mkS 73
            [(0, AV.sl (List.map encM l)), (3, AV.pt 0 0 0), (5, AV.sl (List.take n (List.drop 0 zs))), (7, goI 0),
              (8, goI 0), (9, goI 0)]
            [Row.box [goI x.1, goI x.2]])
          (Ex.exit 0,
            mkS 73 [(3, AV.pt 0 0 0), (5, AV.sl (List.take n (List.drop 0 zs))), (7, goI a), (8, goI 0)]
              [Row.box [goI x.1, goI x.2]]) ∧
        LoopTo Try.prog H (H 7) 0 (loopOf Try.prog 7 15)
            (mkS 73 [(3, AV.pt 0 0 0), (5, AV.sl (List.take n (List.drop 0 zs))), (7, goI a), (8, goI 0), (10, goI 0)]
              [Row.box [goI x.1, goI x.2]])
            (Ex.exit 2,
              mkS 73 [(5, AV.sl (List.take n (List.drop 0 zs))), (7, goI a), (8, goI b)] [Row.box [goI x.1, goI x.2]]) ∧
          TB ((↑(List.length (List.take n (List.drop 0 zs))) : Int) == IntKind.wrap IntKind.i64 (a + b))
            ((goB (decide (IntKind.wrap IntKind.i64 (2 * b) ≤ a)), [], []) = r) ((goB false, [], []) = r))) := by kernel_rfl
theorem t7_10 (l : List Mv) (x : Loc) (o : List (List AV)) (a : Int) (i : Nat) (r : Ex × St) : (turnT Try.prog H (fun f args sto => CT.of (F0 f args sto)) L0 false (H 7) 0 (loopOf Try.prog 7 10)
  (mkS 73 [(0, AV.sl (List.map encM l)), (3, AV.pt 0 0 0), (5, AV.sl o), (7, goI a), (8, goI 0), (9, goI (↑i : Int))]
    [Row.box (encL x)])
  r) = (TB (decide ((↑i : Int) < (↑(List.length (List.map encM l)) : Int)))
  ((0 ≤ (↑i : Int) ∧
      (List.map encM l)[i]? =
        some
          [goI (rdI (rowAt (List.map encM l) i) 0), goI (rdI (rowAt (List.map encM l) i) 1),
            goI (rdI (rowAt (List.map encM l) i) 2), goI (rdI (rowAt (List.map encM l) i) 3)]) ∧
    (0 ≤ (↑i : Int) ∧
        (List.map encM l)[i]? =
          some
            [goI (rdI (rowAt (List.map encM l) i) 0), goI (rdI (rowAt (List.map encM l) i) 1),
              goI (rdI (rowAt (List.map encM l) i) 2), goI (rdI (rowAt (List.map encM l) i) 3)]) ∧
      TB
        (!(rdI (rowAt (List.map encM l) i) 0 == rdI (rowAt (List.map encM l) i) 2 &&
            (rdI (rowAt (List.map encM l) i) 1 == rdI (rowAt (List.map encM l) i) 3 && true)))
        (LoopTo Try.prog H (H 7) 0 (loopOf Try.prog 7 10)
          (mkS 73
            [(0, AV.sl (List.map encM l)), (3, AV.pt 0 0 0), (5, AV.sl o), (7, goI (IntKind.wrap IntKind.i64 (a + 1))),
              (8, goI 0), (9, goI (IntKind.wrap IntKind.i64 ((↑i : Int) + 1)))]
            [Row.box [goI x.1, goI x.2]])
          r)
        (LoopTo Try.prog H (H 7) 0 (loopOf Try.prog 7 10)
          (mkS 73
            [(0, AV.sl (List.map encM l)), (3, AV.pt 0 0 0), (5, AV.sl o), (7, goI a), (8, goI 0),
              (9, goI (IntKind.wrap IntKind.i64 ((↑i : Int) + 1)))]
            [Row.box [goI x.1, goI x.2]])
          r))
  ((Ex.exit 0, mkS 73 [(3, AV.pt 0 0 0), (5, AV.sl o), (7, goI a), (8, goI 0)] [Row.box [goI x.1, goI x.2]]) = r)) := by kernel_rfl
theorem t7_15 (o : List Mv) (x : Loc) (a : Int) (b : Int) (i : Nat) (r : Ex × St) : (turnT Try.prog H (fun f args sto => CT.of (F0 f args sto)) L0 false (H 7) 0 (loopOf Try.prog 7 15)
  (mkS 73 [(3, AV.pt 0 0 0), (5, AV.sl (List.map encM o)), (7, goI a), (8, goI b), (10, goI (↑i : Int))]
    [Row.box (encL x)])
  r) = (TB (decide ((↑i : Int) < (↑(List.length (List.map encM o)) : Int)))
  ((0 ≤ (↑i : Int) ∧
      (List.map encM o)[i]? =
        some
          [goI (rdI (rowAt (List.map encM o) i) 0), goI (rdI (rowAt (List.map encM o) i) 1),
            goI (rdI (rowAt (List.map encM o) i) 2), goI (rdI (rowAt (List.map encM o) i) 3)]) ∧
    TB (rdI (rowAt (List.map encM o) i) 0 == x.1 && (rdI (rowAt (List.map encM o) i) 1 == x.2 && true))
      (LoopTo Try.prog H (H 7) 0 (loopOf Try.prog 7 15)
        (mkS 73
          [(3, AV.pt 0 0 0), (5, AV.sl (List.map encM o)), (7, goI a), (8, goI (IntKind.wrap IntKind.i64 (b + 1))),
            (10, goI (IntKind.wrap IntKind.i64 ((↑i : Int) + 1)))]
          [Row.box [goI x.1, goI x.2]])
        r)
      (LoopTo Try.prog H (H 7) 0 (loopOf Try.prog 7 15)
        (mkS 73
          [(3, AV.pt 0 0 0), (5, AV.sl (List.map encM o)), (7, goI a), (8, goI b),
            (10, goI (IntKind.wrap IntKind.i64 ((↑i : Int) + 1)))]
          [Row.box [goI x.1, goI x.2]])
        r))
  ((Ex.exit 2, mkS 73 [(5, AV.sl (List.map encM o)), (7, goI a), (8, goI b)] [Row.box [goI x.1, goI x.2]]) = r)) := by kernel_rfl
theorem t6 (l : List Loc) (x : Loc) (ms : List (List AV)) (r : AV × List Row × List Nat) : (runT Try.prog H F6 (L6 x l ms) false 6 [AV.sl (List.map encL l), AV.agg (encL x)] [] fun q => q = r) = (Wf Try.prog H 8 [] [] = some (goB true, [], []) ∧
  TB (decide ((↑(List.length (List.map encL l)) : Int) > 40)) ((goB true, [], []) = r)
    (LoopTo Try.prog H (H 6) 0 (loopOf Try.prog 6 7)
        (mkS 105 [(0, AV.sl (List.map encL l)), (3, AV.pt 0 0 0), (5, AV.os 2 0 0), (6, goI 0)]
          [Row.box [goI x.1, goI x.2], Row.dead, Row.arr 4 []])
        (Ex.exit 0,
          mkS 105 [(0, AV.sl (List.map encL l)), (3, AV.pt 0 0 0), (5, AV.os 2 0 (List.length ms))]
            [Row.box [goI x.1, goI x.2], Row.dead, Row.arr 4 ms]) ∧
      TB (U.refR (List.take (List.length ms) (List.drop 0 ms)) x.1 x.2)
        (Wf Try.prog H 9 [AV.sl (List.take (List.length ms) (List.drop 0 ms)), AV.agg [goI x.1, goI x.2]] [] =
            some (AV.tup [AV.sl [], goI 1], [], []) ∧
          Wf Try.prog H 12 [AV.sl (List.take (List.length ms) (List.drop 0 ms))] [] =
              some (goB (U.rightR (List.take (List.length ms) (List.drop 0 ms))), [], []) ∧
            TB (!U.rightR (List.take (List.length ms) (List.drop 0 ms))) ((goB true, [], []) = r)
              (Wf Try.prog H 17 [AV.agg [goI x.1, goI x.2]] [] = some (goB (U.may x.1 x.2), [], []) ∧
                TB (!U.may x.1 x.2) ((goB true, [], []) = r)
                  (Wf Try.prog H 18 [AV.sl (List.map encL l), AV.agg [goI x.1, goI x.2]] [] =
                      some (goB (U.hasR (List.map encL l) x.1 x.2), [], []) ∧
                    (goB (U.hasR (List.map encL l) x.1 x.2), [], []) = r)))
        (Wf Try.prog H 9 [AV.sl (List.take (List.length ms) (List.drop 0 ms)), AV.agg [goI x.1, goI x.2]] [] =
            some
              (AV.tup [AV.os 0 0 (List.length (U.ordR (List.take (List.length ms) (List.drop 0 ms)) x.1 x.2)), goI 0],
                [Row.arr 4 (U.ordR (List.take (List.length ms) (List.drop 0 ms)) x.1 x.2)], []) ∧
          (List.all (U.ordR (List.take (List.length ms) (List.drop 0 ms)) x.1 x.2) fun r => List.all r scalarA) = true ∧
            TB
              (!(↑(List.length
                        (List.take (List.length (U.ordR (List.take (List.length ms) (List.drop 0 ms)) x.1 x.2))
                          (List.drop 0 (U.ordR (List.take (List.length ms) (List.drop 0 ms)) x.1 x.2)))) :
                    Int) ==
                  0)
              ((goB
                    ((↑(List.length
                            (List.take (List.length (U.ordR (List.take (List.length ms) (List.drop 0 ms)) x.1 x.2))
                              (List.drop 0 (U.ordR (List.take (List.length ms) (List.drop 0 ms)) x.1 x.2)))) :
                        Int) ==
                      0),
                  [], []) =
                r)
              (TB ((↑(List.length (List.map encL l)) : Int) == 0)
                ((goB
                      ((↑(List.length
                              (List.take (List.length (U.ordR (List.take (List.length ms) (List.drop 0 ms)) x.1 x.2))
                                (List.drop 0 (U.ordR (List.take (List.length ms) (List.drop 0 ms)) x.1 x.2)))) :
                          Int) ==
                        0),
                    [], []) =
                  r)
                ((iz 0 ≤ 0 ∧
                    (List.map encL l)[0]? =
                      some [goI (rdI (rowAt (List.map encL l) 0) 0), goI (rdI (rowAt (List.map encL l) 0) 1)]) ∧
                  TB
                    (U.refR
                      [[goI x.1, goI x.2, goI (rdI (rowAt (List.map encL l) 0) 0),
                          goI (rdI (rowAt (List.map encL l) 0) 1)]]
                      2 158)
                    (Wf Try.prog H 9
                          [AV.sl
                              [[goI x.1, goI x.2, goI (rdI (rowAt (List.map encL l) 0) 0),
                                  goI (rdI (rowAt (List.map encL l) 0) 1)]],
                            AV.agg [goI 2, goI 158]]
                          [] =
                        some (AV.tup [AV.sl [], goI 1], [], []) ∧
                      TB (2 == x.1 && (158 == x.2 && true)) ((goB true, [], []) = r)
                        ((iz 0 ≤ 0 ∧
                            (List.map encL l)[0]? =
                              some [goI (rdI (rowAt (List.map encL l) 0) 0), goI (rdI (rowAt (List.map encL l) 0) 1)]) ∧
                          TB
                            (2 == rdI (rowAt (List.map encL l) 0) 0 &&
                              (158 == rdI (rowAt (List.map encL l) 0) 1 && true))
                            ((goB true, [], []) = r) ((goB false, [], []) = r)))
                    (Wf Try.prog H 9
                          [AV.sl
                              [[goI x.1, goI x.2, goI (rdI (rowAt (List.map encL l) 0) 0),
                                  goI (rdI (rowAt (List.map encL l) 0) 1)]],
                            AV.agg [goI 2, goI 158]]
                          [] =
                        some
                          (AV.tup
                              [AV.os 0 0
                                  (List.length
                                    (U.ordR
                                      [[goI x.1, goI x.2, goI (rdI (rowAt (List.map encL l) 0) 0),
                                          goI (rdI (rowAt (List.map encL l) 0) 1)]]
                                      2 158)),
                                goI 0],
                            [Row.arr 4
                                (U.ordR
                                  [[goI x.1, goI x.2, goI (rdI (rowAt (List.map encL l) 0) 0),
                                      goI (rdI (rowAt (List.map encL l) 0) 1)]]
                                  2 158)],
                            []) ∧
                      TB (2 == x.1 && (158 == x.2 && true)) ((goB true, [], []) = r)
                        ((iz 0 ≤ 0 ∧
                            (List.map encL l)[0]? =
                              some [goI (rdI (rowAt (List.map encL l) 0) 0), goI (rdI (rowAt (List.map encL l) 0) 1)]) ∧
                          TB
                            (2 == rdI (rowAt (List.map encL l) 0) 0 &&
                              (158 == rdI (rowAt (List.map encL l) 0) 1 && true))
                            ((goB true, [], []) = r)
                            (Wf Try.prog H 11
                                  [AV.sl
                                      (List.take
                                        (List.length
                                          (U.ordR
                                            [[goI x.1, goI x.2, goI (rdI (rowAt (List.map encL l) 0) 0),
                                                goI (rdI (rowAt (List.map encL l) 0) 1)]]
                                            2 158))
                                        (List.drop 0
                                          (U.ordR
                                            [[goI x.1, goI x.2, goI (rdI (rowAt (List.map encL l) 0) 0),
                                                goI (rdI (rowAt (List.map encL l) 0) 1)]]
                                            2 158))),
                                    AV.sl
                                      [[goI x.1, goI x.2, goI (rdI (rowAt (List.map encL l) 0) 0),
                                          goI (rdI (rowAt (List.map encL l) 0) 1)]]]
                                  [] =
                                some
                                  (goB
                                      (U.sameR
                                        (List.take
                                          (List.length
                                            (U.ordR
                                              [[goI x.1, goI x.2, goI (rdI (rowAt (List.map encL l) 0) 0),
                                                  goI (rdI (rowAt (List.map encL l) 0) 1)]]
                                              2 158))
                                          (List.drop 0
                                            (U.ordR
                                              [[goI x.1, goI x.2, goI (rdI (rowAt (List.map encL l) 0) 0),
                                                  goI (rdI (rowAt (List.map encL l) 0) 1)]]
                                              2 158)))
                                        [[goI x.1, goI x.2, goI (rdI (rowAt (List.map encL l) 0) 0),
                                            goI (rdI (rowAt (List.map encL l) 0) 1)]]),
                                    [], []) ∧
                              (goB
                                    (U.sameR
                                      (List.take
                                        (List.length
                                          (U.ordR
                                            [[goI x.1, goI x.2, goI (rdI (rowAt (List.map encL l) 0) 0),
                                                goI (rdI (rowAt (List.map encL l) 0) 1)]]
                                            2 158))
                                        (List.drop 0
                                          (U.ordR
                                            [[goI x.1, goI x.2, goI (rdI (rowAt (List.map encL l) 0) 0),
                                                goI (rdI (rowAt (List.map encL l) 0) 1)]]
                                            2 158)))
                                      [[goI x.1, goI x.2, goI (rdI (rowAt (List.map encL l) 0) 0),
                                          goI (rdI (rowAt (List.map encL l) 0) 1)]]),
                                  [], []) =
                                r)))))))) := by kernel_rfl
theorem t6_7 (l : List Loc) (x : Loc) (ms : List (List AV)) (i : Nat) (r : Ex × St) : (turnT Try.prog H (fun f args sto => CT.of (F0 f args sto)) L0 false (H 6) 0 (loopOf Try.prog 6 7)
  (mkS 105 [(0, AV.sl (List.map encL l)), (3, AV.pt 0 0 0), (5, AV.os 2 0 (List.length ms)), (6, goI (↑i : Int))]
    [Row.box (encL x), Row.dead, Row.arr 4 ms])
  r) = (TB (decide ((↑i : Int) < (↑(List.length (List.map encL l)) : Int)))
  ((0 ≤ (↑i : Int) ∧
      (List.map encL l)[i]? = some [goI (rdI (rowAt (List.map encL l) i) 0), goI (rdI (rowAt (List.map encL l) i) 1)]) ∧
    (0 ≤ (↑i : Int) ∧
        (List.map encL l)[i]? =
          some [goI (rdI (rowAt (List.map encL l) i) 0), goI (rdI (rowAt (List.map encL l) i) 1)]) ∧
      true = true ∧
        (List.length ms = List.length ms ∧ List.length ms + 1 ≤ 1000000) ∧
          LoopTo Try.prog H (H 6) 0 (loopOf Try.prog 6 7)
            (mkS 105
              [(0, AV.sl (List.map encL l)), (3, AV.pt 0 0 0), (5, AV.os 2 0 (List.length ms + 1)),
                (6, goI (IntKind.wrap IntKind.i64 ((↑i : Int) + 1)))]
              [Row.box [goI x.1, goI x.2], Row.dead,
                Row.arr 4
                  (ms ++
                    [[goI (rdI (rowAt (List.map encL l) i) 0), goI (rdI (rowAt (List.map encL l) i) 1),
                        goI (rdI (rowAt (List.map encL l) i) 0), goI (rdI (rowAt (List.map encL l) i) 1)]])])
            r)
  ((Ex.exit 0,
      mkS 105 [(0, AV.sl (List.map encL l)), (3, AV.pt 0 0 0), (5, AV.os 2 0 (List.length ms))]
        [Row.box [goI x.1, goI x.2], Row.dead, Row.arr 4 ms]) =
    r)) := by kernel_rfl
theorem decM_map (l : List Mv) : U.decM (l.map encM) = l := by
  unfold U.decM
  rw [List.map_map]
  refine (List.map_congr_left (g := id) (fun m _ => ?_)).trans (List.map_id l)
  rfl
theorem decL_map (l : List Loc) : U.decL (l.map encL) = l := by
  unfold U.decL
  rw [List.map_map]
  refine (List.map_congr_left (g := id) (fun m _ => ?_)).trans (List.map_id l)
  rfl
theorem take_all (xs : List (List AV)) : List.take (List.length xs) (List.drop 0 xs) = xs := by rw [List.drop_zero, List.take_length]
theorem wf4 (l : List Mv) (at_ : List Loc) (hs : List Int) (hw : ∀ m ∈ l, m.ok) (hat : ∀ x ∈ at_, x.ok) : Wf Try.prog H 4 [.sl (l.map encM), .sl (at_.map encL), .sl (hs.map encI)] [] = some (goB true, [], []) := by
  refine runK (t4 l at_ hs at_.length ((U.play l at_ hs).map encI) _) ⟨wf8, ?_⟩
  rw [List.length_map, List.length_map, List.length_map]
  by_cases h1 : 60 < l.length
  · rw [decide_eq_true (by omega)]; exact rfl
  rw [decide_eq_false (by omega)]
  by_cases h2 : 60 < at_.length
  · rw [decide_eq_true (by omega)]; exact rfl
  rw [decide_eq_false (by omega)]
  by_cases h3 : 100 < hs.length
  · rw [decide_eq_true (by omega)]; exact rfl
  rw [decide_eq_false (by omega)]
  have hpl : (U.play l at_ hs).length = at_.length := by simp [U.play]
  have e : List.take at_.length (List.drop 0 ((U.play l at_ hs).map encI)) = (U.play l at_ hs).map encI := by
    rw [List.drop_zero]; exact List.take_of_length_le (by rw [List.length_map, hpl]; omega)
  have h14 := wf14 (U.play l at_ hs) (U.play l at_ hs) (by omega)
  rw [intsSame] at h14
  rw [e]
  exact ⟨wf15 l at_ hs hw hat (by omega) (by omega) (by omega), wf16 l at_ hs (by omega) (by omega), h14, rfl⟩
theorem loop6_7 (l : List Loc) (x : Loc) (hl : l.length < 100000) : ∀ (d i : Nat), i + d = l.length →
    LoopTo Try.prog H (H 6) 0 (loopOf Try.prog 6 7) (mkS 105 [(0, .sl (l.map encL)), (3, .pt 0 0 0), (5, .os 2 0 (((l.take i).map fun p => Mv.mk p p).map encM).length), (6, goI i)] [.box (encL x), .dead, .arr 4 (((l.take i).map fun p => Mv.mk p p).map encM)])
      (.exit 0, mkS 105 [(0, .sl (l.map encL)), (3, .pt 0 0 0), (5, .os 2 0 ((l.map fun p => Mv.mk p p).map encM).length)] [.box (encL x), .dead, .arr 4 ((l.map fun p => Mv.mk p p).map encM)])
  | 0, i, hd => by
    refine turnK (t6_7 l x _ i _) ?_
    have hi : i = l.length := by omega
    subst hi
    rw [List.length_map, decide_eq_false (by omega), List.take_length]
    exact rfl
  | d + 1, i, hd => by
    have hi : i < l.length := by omega
    have ih := loop6_7 l x hl d (i + 1) (by omega)
    refine turnK (t6_7 l x _ i _) ?_
    have e : ((l.take (i + 1)).map fun p => Mv.mk p p).map encM = ((l.take i).map fun p => Mv.mk p p).map encM ++ [[goI (U.lc l i).k, goI (U.lc l i).n, goI (U.lc l i).k, goI (U.lc l i).n]] := by
      rw [List.take_add_one, get_ok hi, List.map_append, List.map_append]; rfl
    rw [List.length_map, decide_eq_true (by omega), wrapS hi (by omega), rowL hi, getL hi]
    simp only [rdI, List.getD_cons_zero, List.getD_cons_succ, int_goI]
    rw [e, List.length_append, List.length_singleton] at ih
    exact ⟨⟨by omega, by trivial⟩, ⟨by omega, by trivial⟩, by trivial, ⟨by trivial, by simp; omega⟩, ih⟩
theorem moved_self (l : List Loc) : moved (l.map fun p => Mv.mk p p) = [] := by
  unfold moved
  rw [List.filter_eq_nil_iff]
  intro m hm
  obtain ⟨p, _, rfl⟩ := List.mem_map.1 hm
  simp [sameP]
theorem ord_nil (x : Loc) : ∀ (f : Nat) (o : List Mv), ord x f [] o = o
  | 0, o => rfl
  | f + 1, o => by simp [ord]
theorem touched_self (l : List Loc) (x : Loc) : touched (l.map fun p => Mv.mk p p) x = U.hasFrom l x 0 := by
  unfold touched U.hasFrom
  rw [List.length_map, Bool.eq_iff_iff, Bool.not_eq_true', Bool.not_eq_true', ← Bool.not_eq_true, ← Bool.not_eq_true, allFrom_iff, allFrom_iff]
  refine not_congr (forall_congr' fun j => forall_congr' fun _ => forall_congr' fun hj => ?_)
  have e : ((l.map fun p => Mv.mk p p).getD j default) = Mv.mk (U.lc l j) (U.lc l j) := by
    unfold U.lc
    rw [List.getD_eq_getElem?_getD, List.getD_eq_getElem?_getD, List.getElem?_map, List.getElem?_eq_getElem hj]; rfl
  rw [e]
  simp [touchP]
theorem right_mem {l : List Mv} (h : U.right l 0 = true) : ∀ i, i < l.length → U.mayL (U.to l i) = true ∧ U.mayL (U.fr l i) = true ∧ ∀ j, j < i → U.to l j ≠ U.to l i := fun i hi => by
  have h1 := allFrom_iff.1 h i (Nat.zero_le _) hi
  simp only [Bool.and_eq_true] at h1
  refine ⟨h1.1.1, h1.1.2, fun j hj e => ?_⟩
  have h2 := allFrom_iff.1 h1.2 j (Nat.zero_le _) hj
  simp [e] at h2
theorem wf6 (l : List Loc) (x : Loc) (hw : ∀ p ∈ l, p.ok) (hx : x.ok) : Wf Try.prog H 6 [.sl (l.map encL), .agg (encL x)] [] = some (goB true, [], []) := by
  refine runK (t6 l x ((l.map fun p => Mv.mk p p).map encM) _) ⟨wf8, ?_⟩
  rw [List.length_map]
  by_cases hl : 40 < l.length
  · rw [decide_eq_true (by omega)]; exact rfl
  rw [decide_eq_false (by omega), take_all]
  have h7 := loop6_7 l x (by omega) l.length 0 (by omega)
  refine ⟨h7, ?_⟩
  have hms : (l.map fun p => Mv.mk p p).length ≤ 400 := by simp; omega
  have hmw : ∀ m ∈ (l.map fun p => Mv.mk p p), m.ok := fun m hm => by
    obtain ⟨p, hp, rfl⟩ := List.mem_map.1 hm
    exact ⟨hw p hp, hw p hp⟩
  have h12 := wf12 (l.map fun p => Mv.mk p p) (by omega) hmw
  have h17 := wf17 x.k x.n
  have h18 := wf18 l x (by omega)
  have eref : U.refR ((l.map fun p => Mv.mk p p).map encM) x.1 x.2 = refused (l.map fun p => Mv.mk p p) x := by unfold U.refR; rw [decM_map]
  have erig : U.rightR ((l.map fun p => Mv.mk p p).map encM) = U.right (l.map fun p => Mv.mk p p) 0 := by unfold U.rightR; rw [decM_map]
  have ehas : U.hasR (l.map encL) x.1 x.2 = U.hasFrom l x 0 := by unfold U.hasR; rw [decL_map]
  have eord : U.ordR ((l.map fun p => Mv.mk p p).map encM) x.1 x.2 = [] := by unfold U.ordR ordered; rw [decM_map, moved_self, ord_nil]; rfl
  rw [eref, erig, ehas, eord]
  cases hr : refused (l.map fun p => Mv.mk p p) x with
  | true =>
    refine ⟨wf9_no _ x hms hmw hr, h12, ?_⟩
    cases h1 : U.right (l.map fun p => Mv.mk p p) 0 with
    | false => exact rfl
    | true =>
      refine ⟨h17, ?_⟩
      cases h2 : U.may x.1 x.2 with
      | false => exact rfl
      | true =>
        have h3 : U.hasFrom l x 0 = true := by
          rw [← touched_self]
          unfold refused U.mayL at hr
          rw [h1, h2] at hr
          simpa using hr
        rw [h3] at h18 ⊢
        exact ⟨h18, rfl⟩
  | false =>
    have h9 := wf9_ok (l.map fun p => Mv.mk p p) x hms hmw hx hr
    have eo : (ordered (l.map fun p => Mv.mk p p) x).map encM = [] := by unfold ordered; rw [moved_self, ord_nil]; rfl
    rw [eo] at h9
    refine ⟨h9, rfl, ?_⟩
    by_cases h0 : l.length = 0
    · have : l = [] := List.eq_nil_of_length_eq_zero h0
      subst this
      exact rfl
    have hpos : 0 < l.length := by omega
    have e0 : ((l.length : Int) == 0) = false := beq_eq_false_iff_ne.2 (by omega)
    rw [e0]
    have hrow := rowL hpos
    have hget := getL hpos
    unfold refused at hr
    simp only [Bool.or_eq_false_iff, Bool.not_eq_false'] at hr
    obtain ⟨hr1, hr2, hr3⟩ := hr
    have hm0 := (right_mem hr1 0 (by simpa using hpos)).1
    have et : U.to (l.map fun p => Mv.mk p p) 0 = U.lc l 0 := by
      unfold U.to U.lc
      rw [List.getD_eq_getElem?_getD, List.getD_eq_getElem?_getD, List.getElem?_map, List.getElem?_eq_getElem hpos]; rfl
    rw [et] at hm0
    have hne : x ≠ U.lc l 0 := fun e => by
      rw [touched_self] at hr3
      unfold U.hasFrom at hr3
      have h4 : allFrom (fun j => !(decide (U.lc l j = x))) 0 l.length = true := by simpa using hr3
      have h5 := allFrom_iff.1 h4 0 (Nat.le_refl _) hpos
      simp [e] at h5
    have hok0 : (U.lc l 0).ok := lc_ok hw hpos
    rw [hrow, hget]
    simp only [rdI, List.getD_cons_zero, List.getD_cons_succ, int_goI]
    generalize U.lc l 0 = y at hm0 hne hok0
    refine ⟨⟨by decide, by trivial⟩, ?_⟩
    have e1 : [[goI x.1, goI x.2, goI y.k, goI y.n]] = [Mv.mk x y].map encM := rfl
    have eref2 : U.refR ([Mv.mk x y].map encM) 2 158 = refused [Mv.mk x y] ⟨2, 158⟩ := by unfold U.refR; rw [decM_map]
    have eord2 : U.ordR ([Mv.mk x y].map encM) 2 158 = (ordered [Mv.mk x y] ⟨2, 158⟩).map encM := by unfold U.ordR; rw [decM_map]
    rw [e1, eref2, eord2]
    have hmw2 : ∀ m ∈ [Mv.mk x y], m.ok := fun m hm => by simp at hm; subst hm; exact ⟨hx, hok0⟩
    have hmx : U.mayL x = true := hr2
    have hrg : U.right [Mv.mk x y] 0 = true := by
      have : U.right [Mv.mk x y] 0 = (U.mayL x && U.mayL y && U.newTo [Mv.mk x y] 0 0 && U.right [Mv.mk x y] 1) := allFrom_step _ (by simp)
      rw [this, hmx, hm0]
      rfl
    have hmo : U.mayL ⟨2, 158⟩ = true := by decide
    have hto : touched [Mv.mk x y] ⟨2, 158⟩ = (decide (x = ⟨2, 158⟩) || decide (y = ⟨2, 158⟩)) := by
      have h := touch_step [Mv.mk x y] ⟨2, 158⟩ (i := 0) (by simp)
      have h2 : touchedFrom [Mv.mk x y] ⟨2, 158⟩ 1 = false := by simp [touchedFrom, allFrom]
      have h3 : touched [Mv.mk x y] ⟨2, 158⟩ = touchedFrom [Mv.mk x y] ⟨2, 158⟩ 0 := rfl
      rw [h3, h, h2, Bool.or_false]
      simp [touchP, Bool.decide_or]
    have href : refused [Mv.mk x y] ⟨2, 158⟩ = (decide (x = ⟨2, 158⟩) || decide (y = ⟨2, 158⟩)) := by
      unfold refused; rw [hrg, hmo, hto]; simp
    have b1 : (2 == x.1 && (158 == x.2 && true)) = decide (x = ⟨2, 158⟩) := by
      rw [Bool.and_true, Bool.eq_iff_iff]; simp [Loc.eq_iff]; constructor <;> (rintro ⟨a, b⟩; exact ⟨a.symm, b.symm⟩)
    have b2 : (2 == y.k && (158 == y.n && true)) = decide (y = ⟨2, 158⟩) := by
      rw [Bool.and_true, Bool.eq_iff_iff]; simp [Loc.eq_iff]; constructor <;> (rintro ⟨a, b⟩; exact ⟨a.symm, b.symm⟩)
    rw [b1, b2]
    have hoko : (⟨2, 158⟩ : Loc).ok := ⟨⟨by decide, by decide⟩, ⟨by decide, by decide⟩⟩
    cases hr : refused [Mv.mk x y] ⟨2, 158⟩ with
    | true =>
      refine ⟨wf9_no _ _ (by simp) hmw2 hr, ?_⟩
      rw [href] at hr
      cases h1 : decide (x = (⟨2, 158⟩ : Loc)) with
      | true => exact True.intro
      | false =>
        rw [h1, Bool.false_or] at hr
        rw [hr]
        exact ⟨⟨by decide, by trivial⟩, True.intro⟩
    | false =>
      have h9 := wf9_ok [Mv.mk x y] ⟨2, 158⟩ (by simp) hmw2 hoko hr
      have eo : ordered [Mv.mk x y] ⟨2, 158⟩ = [Mv.mk x y] := by
        have hmv : moved [Mv.mk x y] = [Mv.mk x y] := by simp [moved, sameP, hne]
        have hfi : U.freeIdx [Mv.mk x y] = 0 := by
          unfold U.freeIdx
          show U.firstOf (U.free [Mv.mk x y]) 1 0 = 0
          rw [firstOf_step]
          have : U.free [Mv.mk x y] 0 = true := by
            unfold U.free U.cnt U.to
            simp [List.count_cons]
            exact fun e => hne e.symm
          rw [if_pos this]; rfl
        unfold ordered
        rw [hmv]
        have hmu : mu [Mv.mk x y] = 2 := by unfold mu; rw [hfi]; rfl
        rw [hmu]
        simp [ord, hfi]
      rw [href] at hr
      simp only [Bool.or_eq_false_iff] at hr
      rw [eo] at h9 ⊢
      refine ⟨h9, ?_⟩
      rw [hr.1, hr.2, take_all]
      have h11 := wf11 [Mv.mk x y] [Mv.mk x y] (by simp)
      have es : U.sameR ([Mv.mk x y].map encM) ([Mv.mk x y].map encM) = (decide ([Mv.mk x y].length = [Mv.mk x y].length) && U.same [Mv.mk x y] [Mv.mk x y] 0) := by unfold U.sameR; rw [decM_map]
      rw [es]
      rw [allSame] at h11 ⊢
      exact ⟨⟨by decide, by trivial⟩, h11, rfl⟩
end Go.Proofs.Ythbkemkjkpaoaab.E
