/- Functions, by what the evaluator asks; the theorems t.. were printed by show.txt, a program of this session. -/
import Derived.Test.Ythbkemkjkpaoaab17v
set_option linter.unusedVariables false
set_option linter.unusedSimpArgs false
set_option maxRecDepth 100000
namespace Go.Proofs.Ythbkemkjkpaoaab.E
open Go
def L5 (l : List Mv) (hs : List Int) (o : List (List AV)) (x : Loc) (n : Nat) (A F W : List (List AV)) : Nat → St → LT := fun id st => match id with
 | 11 => .is (.exit 0) (mkS 156 [(0, .sl (l.map encM)), (7, .sl o), (9, .os 2 0 A.length), (10, .os 3 0 F.length)] [.dead, .dead, .arr 2 A, .arr 1 F, .dead])
 | 28 => .is (.exit 4) (mkS 156 [(0, .sl (l.map encM)), (7, .sl o), (9, .os 2 0 A.length), (10, .os 3 0 F.length), (16, .os 4 0 n)] [.dead, .dead, .arr 2 A, .arr 1 F, .arr 1 W])
 | _ => .no
def F5 (no : Bool) (n : Nat) (zs ps : List (List AV)) (k : Nat) : CallT := fun f args sto => match f, args with
 | 8, _ => .is (goB true, [], [])
 | 9, _ => .by no (.is (.tup [.sl [], goI 1], [], [])) (.is (.tup [.os 0 0 n, goI 0], [.arr 4 zs], []))
 | 15, _ => .is (.os 0 0 k, [.arr 1 ps], [])
 | 14, _ => .is (goB true, [], [])
 | _, _ => .no
def L511 (l : List Mv) (hs : List Int) (o : List (List AV)) (x y : Loc) (i : Nat) (b : Bool) (A F : List (List AV)) : Nat → St → LT := fun id st => .is (.exit 2) (mkS 156 [(0, .sl (l.map encM)), (2, .sl (hs.map encI)), (7, .sl o), (9, .os 2 0 A.length), (10, .os 3 0 F.length), (11, goI i), (12, .pt 1 0 0), (13, goB b)] [.box (encL x), .box (encL y), .arr 2 A, .arr 1 F, .dead])
def L528 (l : List Mv) (o : List (List AV)) (i n : Nat) (A F W : List (List AV)) : Nat → St → LT := fun id st => .is (.exit 6) (mkS 156 [(0, .sl (l.map encM)), (7, .sl o), (9, .os 2 0 A.length), (10, .os 3 0 F.length), (16, .os 4 0 n), (17, goI i)] [.dead, .dead, .arr 2 A, .arr 1 F, .arr 1 W])
def L531 (l : List Mv) (o : List (List AV)) (i k n : Nat) (A F W : List (List AV)) : Nat → St → LT := fun id st => .is (.exit 8) (mkS 156 [(0, .sl (l.map encM)), (7, .sl o), (9, .os 2 0 A.length), (10, .os 3 0 F.length), (16, .os 4 0 n), (17, goI i), (18, goI k)] [.dead, .dead, .arr 2 A, .arr 1 F, .arr 1 W])

theorem t5 (l : List Mv) (x : Loc) (hs : List Int) (no : Bool) (n : Nat) (n2 : Nat) (k : Nat) (zs : List (List AV)) (ps : List (List AV)) (A : List (List AV)) (F : List (List AV)) (W : List (List AV)) (r : AV × List Row × List Nat) : (runT Try.prog H (F5 no n zs ps k) (L5 l hs (List.take n (List.drop 0 zs)) x n2 A F W) false 5
  [AV.sl (List.map encM l), AV.agg (encL x), AV.sl (List.map encI hs)] [] fun q => q = r) = (Wf Try.prog H 8 [] [] = some (goB true, [], []) ∧
  TB (decide ((↑(List.length (List.map encM l)) : Int) > 40)) ((goB true, [], []) = r)
    (TB no
      (Wf Try.prog H 9 [AV.sl (List.map encM l), AV.agg [goI x.1, goI x.2]] [] =
          some (AV.tup [AV.sl [], goI 1], [], []) ∧
        (goB true, [], []) = r)
      (Wf Try.prog H 9 [AV.sl (List.map encM l), AV.agg [goI x.1, goI x.2]] [] =
          some (AV.tup [AV.os 0 0 n, goI 0], [Row.arr 4 zs], []) ∧
        LoopTo Try.prog H (H 5) 0 (loopOf Try.prog 5 11)
            (mkS 156
              [(0, AV.sl (List.map encM l)), (2, AV.sl (List.map encI hs)), (7, AV.sl (List.take n (List.drop 0 zs))),
                (9, AV.os 2 0 0), (10, AV.os 3 0 0), (11, goI 0)]
              [Row.box [goI x.1, goI x.2], Row.dead, Row.arr 2 [], Row.arr 1 [], Row.dead])
            (Ex.exit 0,
              mkS 156
                [(0, AV.sl (List.map encM l)), (7, AV.sl (List.take n (List.drop 0 zs))),
                  (9, AV.os 2 0 (List.length A)), (10, AV.os 3 0 (List.length F))]
                [Row.dead, Row.dead, Row.arr 2 A, Row.arr 1 F, Row.dead]) ∧
          rowsOk 1 (List.take (List.length F) (List.drop 0 F)) = true ∧
            (0 = 0 ∧ 0 + List.length (List.take (List.length F) (List.drop 0 F)) ≤ 1000000) ∧
              LoopTo Try.prog H (H 5) 0 (loopOf Try.prog 5 28)
                  (mkS 156
                    [(0, AV.sl (List.map encM l)), (7, AV.sl (List.take n (List.drop 0 zs))),
                      (9, AV.os 2 0 (List.length A)), (10, AV.os 3 0 (List.length F)),
                      (16, AV.os 4 0 (0 + List.length (List.take (List.length F) (List.drop 0 F)))), (17, goI 0)]
                    [Row.dead, Row.dead, Row.arr 2 A, Row.arr 1 F,
                      Row.arr 1 ([] ++ List.take (List.length F) (List.drop 0 F))])
                  (Ex.exit 4,
                    mkS 156
                      [(0, AV.sl (List.map encM l)), (7, AV.sl (List.take n (List.drop 0 zs))),
                        (9, AV.os 2 0 (List.length A)), (10, AV.os 3 0 (List.length F)), (16, AV.os 4 0 n2)]
                      [Row.dead, Row.dead, Row.arr 2 A, Row.arr 1 F, Row.arr 1 W]) ∧
                Wf Try.prog H 15
                      [AV.sl (List.take n (List.drop 0 zs)), AV.sl (List.take (List.length A) (List.drop 0 A)),
                        AV.sl (List.take (List.length F) (List.drop 0 F))]
                      [] =
                    some (AV.os 0 0 k, [Row.arr 1 ps], []) ∧
                  (List.all ps fun r => List.all r scalarA) = true ∧
                    Wf Try.prog H 14 [AV.sl (List.take k (List.drop 0 ps)), AV.sl (List.take n2 (List.drop 0 W))] [] =
                        some (goB true, [], []) ∧
                      (goB
                            (decide
                              ((↑(List.length (List.take n (List.drop 0 zs))) : Int) ≤
                                IntKind.wrap IntKind.i64 (2 * (↑(List.length (List.map encM l)) : Int)))),
                          [], []) =
                        r))) := by kernel_rfl
theorem t5_11 (l : List Mv) (hs : List Int) (o : List (List AV)) (x : Loc) (y : Loc) (i : Nat) (b : Bool) (A : List (List AV)) (F : List (List AV)) (r : Ex × St) : (turnT Try.prog H (fun f args sto => CT.of (F0 f args sto)) (L511 l hs o x y i b A F) false (H 5) 0
  (loopOf Try.prog 5 11)
  (mkS 156
    [(0, AV.sl (List.map encM l)), (2, AV.sl (List.map encI hs)), (7, AV.sl o), (9, AV.os 2 0 (List.length A)),
      (10, AV.os 3 0 (List.length F)), (11, goI (↑i : Int))]
    [Row.box (encL x), Row.dead, Row.arr 2 A, Row.arr 1 F, Row.dead])
  r) = (TB (decide ((↑i : Int) < IntKind.wrap IntKind.i64 (2 * (↑(List.length (List.map encM l)) : Int))))
  (iz 2 ≠ 0 ∧
    (0 ≤ IntKind.wrap IntKind.i64 (Int.tdiv (↑i : Int) 2) ∧
        (List.map encM l)[Int.toNat (IntKind.wrap IntKind.i64 (Int.tdiv (↑i : Int) 2))]? =
          some
            [goI (rdI (rowAt (List.map encM l) (Int.toNat (IntKind.wrap IntKind.i64 (Int.tdiv (↑i : Int) 2)))) 0),
              goI (rdI (rowAt (List.map encM l) (Int.toNat (IntKind.wrap IntKind.i64 (Int.tdiv (↑i : Int) 2)))) 1),
              goI (rdI (rowAt (List.map encM l) (Int.toNat (IntKind.wrap IntKind.i64 (Int.tdiv (↑i : Int) 2)))) 2),
              goI (rdI (rowAt (List.map encM l) (Int.toNat (IntKind.wrap IntKind.i64 (Int.tdiv (↑i : Int) 2)))) 3)]) ∧
      iz 2 ≠ 0 ∧
        TB (Int.tmod (↑i : Int) 2 == 1)
          (iz 2 ≠ 0 ∧
            (0 ≤ IntKind.wrap IntKind.i64 (Int.tdiv (↑i : Int) 2) ∧
                (List.map encM l)[Int.toNat (IntKind.wrap IntKind.i64 (Int.tdiv (↑i : Int) 2))]? =
                  some
                    [goI
                        (rdI (rowAt (List.map encM l) (Int.toNat (IntKind.wrap IntKind.i64 (Int.tdiv (↑i : Int) 2))))
                          0),
                      goI
                        (rdI (rowAt (List.map encM l) (Int.toNat (IntKind.wrap IntKind.i64 (Int.tdiv (↑i : Int) 2))))
                          1),
                      goI
                        (rdI (rowAt (List.map encM l) (Int.toNat (IntKind.wrap IntKind.i64 (Int.tdiv (↑i : Int) 2))))
                          2),
                      goI
                        (rdI (rowAt (List.map encM l) (Int.toNat (IntKind.wrap IntKind.i64 (Int.tdiv (↑i : Int) 2))))
                          3)]) ∧
              LoopTo Try.prog H (H 5) 0 (loopOf Try.prog 5 18)
                  (mkS 156
                    [(0, AV.sl (List.map encM l)), (2, AV.sl (List.map encI hs)), (7, AV.sl o),
                      (9, AV.os 2 0 (List.length A)), (10, AV.os 3 0 (List.length F)), (11, goI (↑i : Int)),
                      (12, AV.pt 1 0 0), (13, goB false), (14, goI 0)]
                    [Row.box [goI x.1, goI x.2],
                      Row.box
                        [goI
                            (rdI
                              (rowAt (List.map encM l) (Int.toNat (IntKind.wrap IntKind.i64 (Int.tdiv (↑i : Int) 2))))
                              2),
                          goI
                            (rdI
                              (rowAt (List.map encM l) (Int.toNat (IntKind.wrap IntKind.i64 (Int.tdiv (↑i : Int) 2))))
                              3)],
                      Row.arr 2 A, Row.arr 1 F, Row.dead])
                  (Ex.exit 2,
                    mkS 156
                      [(0, AV.sl (List.map encM l)), (2, AV.sl (List.map encI hs)), (7, AV.sl o),
                        (9, AV.os 2 0 (List.length A)), (10, AV.os 3 0 (List.length F)), (11, goI (↑i : Int)),
                        (12, AV.pt 1 0 0), (13, goB b)]
                      [Row.box [goI x.1, goI x.2], Row.box [goI y.1, goI y.2], Row.arr 2 A, Row.arr 1 F, Row.dead]) ∧
                TB b
                  (LoopTo Try.prog H (H 5) 0 (loopOf Try.prog 5 11)
                    (mkS 156
                      [(0, AV.sl (List.map encM l)), (2, AV.sl (List.map encI hs)), (7, AV.sl o),
                        (9, AV.os 2 0 (List.length A)), (10, AV.os 3 0 (List.length F)),
                        (11, goI (IntKind.wrap IntKind.i64 ((↑i : Int) + 1)))]
                      [Row.box [goI x.1, goI x.2], Row.dead, Row.arr 2 A, Row.arr 1 F, Row.dead])
                    r)
                  (TB (decide ((↑i : Int) < (↑(List.length (List.map encI hs)) : Int)))
                    ((0 ≤ (↑i : Int) ∧ (List.map encI hs)[i]? = some [goI (rdI (rowAt (List.map encI hs) i) 0)]) ∧
                      true = true ∧
                        (List.length A = List.length A ∧ List.length A + 1 ≤ 1000000) ∧
                          true = true ∧
                            (List.length F = List.length F ∧ List.length F + 1 ≤ 1000000) ∧
                              LoopTo Try.prog H (H 5) 0 (loopOf Try.prog 5 11)
                                (mkS 156
                                  [(0, AV.sl (List.map encM l)), (2, AV.sl (List.map encI hs)), (7, AV.sl o),
                                    (9, AV.os 2 0 (List.length A + 1)), (10, AV.os 3 0 (List.length F + 1)),
                                    (11, goI (IntKind.wrap IntKind.i64 ((↑i : Int) + 1)))]
                                  [Row.box [goI x.1, goI x.2], Row.dead, Row.arr 2 (A ++ [[goI y.1, goI y.2]]),
                                    Row.arr 1 (F ++ [[goI (rdI (rowAt (List.map encI hs) i) 0)]]), Row.dead])
                                r)
                    (true = true ∧
                      (List.length A = List.length A ∧ List.length A + 1 ≤ 1000000) ∧
                        true = true ∧
                          (List.length F = List.length F ∧ List.length F + 1 ≤ 1000000) ∧
                            LoopTo Try.prog H (H 5) 0 (loopOf Try.prog 5 11)
                              (mkS 156
                                [(0, AV.sl (List.map encM l)), (2, AV.sl (List.map encI hs)), (7, AV.sl o),
                                  (9, AV.os 2 0 (List.length A + 1)), (10, AV.os 3 0 (List.length F + 1)),
                                  (11, goI (IntKind.wrap IntKind.i64 ((↑i : Int) + 1)))]
                                [Row.box [goI x.1, goI x.2], Row.dead, Row.arr 2 (A ++ [[goI y.1, goI y.2]]),
                                  Row.arr 1 (F ++ [[goI (IntKind.wrap IntKind.i64 (1000 + (↑i : Int)))]]), Row.dead])
                              r)))
          (LoopTo Try.prog H (H 5) 0 (loopOf Try.prog 5 18)
              (mkS 156
                [(0, AV.sl (List.map encM l)), (2, AV.sl (List.map encI hs)), (7, AV.sl o),
                  (9, AV.os 2 0 (List.length A)), (10, AV.os 3 0 (List.length F)), (11, goI (↑i : Int)),
                  (12, AV.pt 1 0 0), (13, goB false), (14, goI 0)]
                [Row.box [goI x.1, goI x.2],
                  Row.box
                    [goI
                        (rdI (rowAt (List.map encM l) (Int.toNat (IntKind.wrap IntKind.i64 (Int.tdiv (↑i : Int) 2))))
                          0),
                      goI
                        (rdI (rowAt (List.map encM l) (Int.toNat (IntKind.wrap IntKind.i64 (Int.tdiv (↑i : Int) 2))))
                          1)],
                  Row.arr 2 A, Row.arr 1 F, Row.dead])
              (Ex.exit 2,
                mkS 156
                  [(0, AV.sl (List.map encM l)), (2, AV.sl (List.map encI hs)), (7, AV.sl o),
                    (9, AV.os 2 0 (List.length A)), (10, AV.os 3 0 (List.length F)), (11, goI (↑i : Int)),
                    (12, AV.pt 1 0 0), (13, goB b)]
                  [Row.box [goI x.1, goI x.2], Row.box [goI y.1, goI y.2], Row.arr 2 A, Row.arr 1 F, Row.dead]) ∧
            TB b
              (LoopTo Try.prog H (H 5) 0 (loopOf Try.prog 5 11)
                (mkS 156
                  [(0, AV.sl (List.map encM l)), (2, AV.sl (List.map encI hs)), (7, AV.sl o),
                    (9, AV.os 2 0 (List.length A)), (10, AV.os 3 0 (List.length F)),
                    (11, goI (IntKind.wrap IntKind.i64 ((↑i : Int) + 1)))]
                  [Row.box [goI x.1, goI x.2], Row.dead, Row.arr 2 A, Row.arr 1 F, Row.dead])
                r)
              (TB (decide ((↑i : Int) < (↑(List.length (List.map encI hs)) : Int)))
                ((0 ≤ (↑i : Int) ∧ (List.map encI hs)[i]? = some [goI (rdI (rowAt (List.map encI hs) i) 0)]) ∧
                  true = true ∧
                    (List.length A = List.length A ∧ List.length A + 1 ≤ 1000000) ∧
                      true = true ∧
                        (List.length F = List.length F ∧ List.length F + 1 ≤ 1000000) ∧
                          LoopTo Try.prog H (H 5) 0 (loopOf Try.prog 5 11)
                            (mkS 156
                              [(0, AV.sl (List.map encM l)), (2, AV.sl (List.map encI hs)), (7, AV.sl o),
                                (9, AV.os 2 0 (List.length A + 1)), (10, AV.os 3 0 (List.length F + 1)),
                                (11, goI (IntKind.wrap IntKind.i64 ((↑i : Int) + 1)))]
                              [Row.box [goI x.1, goI x.2], Row.dead, Row.arr 2 (A ++ [[goI y.1, goI y.2]]),
                                Row.arr 1 (F ++ [[goI (rdI (rowAt (List.map encI hs) i) 0)]]), Row.dead])
                            r)
                (true = true ∧
                  (List.length A = List.length A ∧ List.length A + 1 ≤ 1000000) ∧
                    true = true ∧
                      (List.length F = List.length F ∧ List.length F + 1 ≤ 1000000) ∧
                        LoopTo Try.prog H (H 5) 0 (loopOf Try.prog 5 11)
                          (mkS 156
                            [(0, AV.sl (List.map encM l)), (2, AV.sl (List.map encI hs)), (7, AV.sl o),
                              (9, AV.os 2 0 (List.length A + 1)), (10, AV.os 3 0 (List.length F + 1)),
                              (11, goI (IntKind.wrap IntKind.i64 ((↑i : Int) + 1)))]
                            [Row.box [goI x.1, goI x.2], Row.dead, Row.arr 2 (A ++ [[goI y.1, goI y.2]]),
                              Row.arr 1 (F ++ [[goI (IntKind.wrap IntKind.i64 (1000 + (↑i : Int)))]]), Row.dead])
                          r))))
  ((Ex.exit 0,
      mkS 156
        [(0, AV.sl (List.map encM l)), (7, AV.sl o), (9, AV.os 2 0 (List.length A)), (10, AV.os 3 0 (List.length F))]
        [Row.dead, Row.dead, Row.arr 2 A, Row.arr 1 F, Row.dead]) =
    r)) := by kernel_rfl
theorem t5_18 (l : List Mv) (hs : List Int) (o : List (List AV)) (x : Loc) (y : Loc) (i : Nat) (j : Nat) (b : Bool) (A : List (List AV)) (F : List (List AV)) (r : Ex × St) : (turnT Try.prog H (fun f args sto => CT.of (F0 f args sto)) L0 false (H 5) 0 (loopOf Try.prog 5 18)
  (mkS 156
    [(0, AV.sl (List.map encM l)), (2, AV.sl (List.map encI hs)), (7, AV.sl o), (9, AV.os 2 0 (List.length A)),
      (10, AV.os 3 0 (List.length F)), (11, goI (↑i : Int)), (12, AV.pt 1 0 0), (13, goB b), (14, goI (↑j : Int))]
    [Row.box (encL x), Row.box (encL y), Row.arr 2 A, Row.arr 1 F, Row.dead])
  r) = (TB (decide ((↑j : Int) < (↑(List.length A) : Int)))
  (TB b
    (LoopTo Try.prog H (H 5) 0 (loopOf Try.prog 5 18)
      (mkS 156
        [(0, AV.sl (List.map encM l)), (2, AV.sl (List.map encI hs)), (7, AV.sl o), (9, AV.os 2 0 (List.length A)),
          (10, AV.os 3 0 (List.length F)), (11, goI (↑i : Int)), (12, AV.pt 1 0 0), (13, goB true),
          (14, goI (IntKind.wrap IntKind.i64 ((↑j : Int) + 1)))]
        [Row.box [goI x.1, goI x.2], Row.box [goI y.1, goI y.2], Row.arr 2 A, Row.arr 1 F, Row.dead])
      r)
    ((0 ≤ (↑j : Int) ∧ (↑j : Int) < (↑(List.length A) : Int) ∧ 0 + j < List.length A) ∧
      cutAt 2 0 A[0 + j]? = some [goI (rdI (rowAt A (0 + j)) 0), goI (rdI (rowAt A (0 + j)) 1)] ∧
        LoopTo Try.prog H (H 5) 0 (loopOf Try.prog 5 18)
          (mkS 156
            [(0, AV.sl (List.map encM l)), (2, AV.sl (List.map encI hs)), (7, AV.sl o), (9, AV.os 2 0 (List.length A)),
              (10, AV.os 3 0 (List.length F)), (11, goI (↑i : Int)), (12, AV.pt 1 0 0),
              (13, goB (rdI (rowAt A (0 + j)) 0 == y.1 && (rdI (rowAt A (0 + j)) 1 == y.2 && true))),
              (14, goI (IntKind.wrap IntKind.i64 ((↑j : Int) + 1)))]
            [Row.box [goI x.1, goI x.2], Row.box [goI y.1, goI y.2], Row.arr 2 A, Row.arr 1 F, Row.dead])
          r))
  ((Ex.exit 2,
      mkS 156
        [(0, AV.sl (List.map encM l)), (2, AV.sl (List.map encI hs)), (7, AV.sl o), (9, AV.os 2 0 (List.length A)),
          (10, AV.os 3 0 (List.length F)), (11, goI (↑i : Int)), (12, AV.pt 1 0 0), (13, goB b)]
        [Row.box [goI x.1, goI x.2], Row.box [goI y.1, goI y.2], Row.arr 2 A, Row.arr 1 F, Row.dead]) =
    r)) := by kernel_rfl
theorem t5_28 (l : List Mv) (o : List (List AV)) (i : Nat) (n : Nat) (A : List (List AV)) (F : List (List AV)) (W : List (List AV)) (W2 : List (List AV)) (r : Ex × St) : (turnT Try.prog H (fun f args sto => CT.of (F0 f args sto)) (L528 l o i n A F W2) false (H 5) 0 (loopOf Try.prog 5 28)
  (mkS 156
    [(0, AV.sl (List.map encM l)), (7, AV.sl o), (9, AV.os 2 0 (List.length A)), (10, AV.os 3 0 (List.length F)),
      (16, AV.os 4 0 n), (17, goI (↑i : Int))]
    [Row.dead, Row.dead, Row.arr 2 A, Row.arr 1 F, Row.arr 1 W])
  r) = (TB (decide ((↑i : Int) < (↑(List.length (List.map encM l)) : Int)))
  (LoopTo Try.prog H (H 5) 0 (loopOf Try.prog 5 31)
      (mkS 156
        [(0, AV.sl (List.map encM l)), (7, AV.sl o), (9, AV.os 2 0 (List.length A)), (10, AV.os 3 0 (List.length F)),
          (16, AV.os 4 0 n), (17, goI (↑i : Int)), (18, goI 0)]
        [Row.dead, Row.dead, Row.arr 2 A, Row.arr 1 F, Row.arr 1 W])
      (Ex.exit 6,
        mkS 156
          [(0, AV.sl (List.map encM l)), (7, AV.sl o), (9, AV.os 2 0 (List.length A)), (10, AV.os 3 0 (List.length F)),
            (16, AV.os 4 0 n), (17, goI (↑i : Int))]
          [Row.dead, Row.dead, Row.arr 2 A, Row.arr 1 F, Row.arr 1 W2]) ∧
    LoopTo Try.prog H (H 5) 0 (loopOf Try.prog 5 28)
      (mkS 156
        [(0, AV.sl (List.map encM l)), (7, AV.sl o), (9, AV.os 2 0 (List.length A)), (10, AV.os 3 0 (List.length F)),
          (16, AV.os 4 0 n), (17, goI (IntKind.wrap IntKind.i64 ((↑i : Int) + 1)))]
        [Row.dead, Row.dead, Row.arr 2 A, Row.arr 1 F, Row.arr 1 W2])
      r)
  ((Ex.exit 4,
      mkS 156
        [(0, AV.sl (List.map encM l)), (7, AV.sl o), (9, AV.os 2 0 (List.length A)), (10, AV.os 3 0 (List.length F)),
          (16, AV.os 4 0 n)]
        [Row.dead, Row.dead, Row.arr 2 A, Row.arr 1 F, Row.arr 1 W]) =
    r)) := by kernel_rfl
theorem t5_31 (l : List Mv) (o : List (List AV)) (i : Nat) (k : Nat) (n : Nat) (A : List (List AV)) (F : List (List AV)) (W : List (List AV)) (W2 : List (List AV)) (r : Ex × St) : (turnT Try.prog H (fun f args sto => CT.of (F0 f args sto)) (L531 l o i k n A F W2) false (H 5) 0 (loopOf Try.prog 5 31)
  (mkS 156
    [(0, AV.sl (List.map encM l)), (7, AV.sl o), (9, AV.os 2 0 (List.length A)), (10, AV.os 3 0 (List.length F)),
      (16, AV.os 4 0 n), (17, goI (↑i : Int)), (18, goI (↑k : Int))]
    [Row.dead, Row.dead, Row.arr 2 A, Row.arr 1 F, Row.arr 1 W])
  r) = (TB (decide ((↑k : Int) < (↑(List.length A) : Int)))
  (LoopTo Try.prog H (H 5) 0 (loopOf Try.prog 5 34)
      (mkS 156
        [(0, AV.sl (List.map encM l)), (7, AV.sl o), (9, AV.os 2 0 (List.length A)), (10, AV.os 3 0 (List.length F)),
          (16, AV.os 4 0 n), (17, goI (↑i : Int)), (18, goI (↑k : Int)), (19, goI 0)]
        [Row.dead, Row.dead, Row.arr 2 A, Row.arr 1 F, Row.arr 1 W])
      (Ex.exit 8,
        mkS 156
          [(0, AV.sl (List.map encM l)), (7, AV.sl o), (9, AV.os 2 0 (List.length A)), (10, AV.os 3 0 (List.length F)),
            (16, AV.os 4 0 n), (17, goI (↑i : Int)), (18, goI (↑k : Int))]
          [Row.dead, Row.dead, Row.arr 2 A, Row.arr 1 F, Row.arr 1 W2]) ∧
    LoopTo Try.prog H (H 5) 0 (loopOf Try.prog 5 31)
      (mkS 156
        [(0, AV.sl (List.map encM l)), (7, AV.sl o), (9, AV.os 2 0 (List.length A)), (10, AV.os 3 0 (List.length F)),
          (16, AV.os 4 0 n), (17, goI (↑i : Int)), (18, goI (IntKind.wrap IntKind.i64 ((↑k : Int) + 1)))]
        [Row.dead, Row.dead, Row.arr 2 A, Row.arr 1 F, Row.arr 1 W2])
      r)
  ((Ex.exit 6,
      mkS 156
        [(0, AV.sl (List.map encM l)), (7, AV.sl o), (9, AV.os 2 0 (List.length A)), (10, AV.os 3 0 (List.length F)),
          (16, AV.os 4 0 n), (17, goI (↑i : Int))]
        [Row.dead, Row.dead, Row.arr 2 A, Row.arr 1 F, Row.arr 1 W]) =
    r)) := by kernel_rfl
theorem t5_34 (l : List Mv) (o : List (List AV)) (i : Nat) (k : Nat) (j : Nat) (n : Nat) (A : List (List AV)) (F : List (List AV)) (W : List (List AV)) (r : Ex × St) : (turnT Try.prog H (fun f args sto => CT.of (F0 f args sto)) L0 false (H 5) 0 (loopOf Try.prog 5 34)
  (mkS 156
    [(0, AV.sl (List.map encM l)), (7, AV.sl o), (9, AV.os 2 0 (List.length A)), (10, AV.os 3 0 (List.length F)),
      (16, AV.os 4 0 n), (17, goI (↑i : Int)), (18, goI (↑k : Int)), (19, goI (↑j : Int))]
    [Row.dead, Row.dead, Row.arr 2 A, Row.arr 1 F, Row.arr 1 W])
  r) = (TB (decide ((↑j : Int) < (↑(List.length A) : Int)))
  ((0 ≤ (↑k : Int) ∧ (↑k : Int) < (↑(List.length A) : Int) ∧ 0 + k < List.length A) ∧
    cutAt 2 0 A[0 + k]? = some [goI (rdI (rowAt A (0 + k)) 0), goI (rdI (rowAt A (0 + k)) 1)] ∧
      (0 ≤ (↑i : Int) ∧
          (List.map encM l)[i]? =
            some
              [goI (rdI (rowAt (List.map encM l) i) 0), goI (rdI (rowAt (List.map encM l) i) 1),
                goI (rdI (rowAt (List.map encM l) i) 2), goI (rdI (rowAt (List.map encM l) i) 3)]) ∧
        TB
          (rdI (rowAt A (0 + k)) 0 == rdI (rowAt (List.map encM l) i) 0 &&
            (rdI (rowAt A (0 + k)) 1 == rdI (rowAt (List.map encM l) i) 1 && true))
          ((0 ≤ (↑j : Int) ∧ (↑j : Int) < (↑(List.length A) : Int) ∧ 0 + j < List.length A) ∧
            cutAt 2 0 A[0 + j]? = some [goI (rdI (rowAt A (0 + j)) 0), goI (rdI (rowAt A (0 + j)) 1)] ∧
              (0 ≤ (↑i : Int) ∧
                  (List.map encM l)[i]? =
                    some
                      [goI (rdI (rowAt (List.map encM l) i) 0), goI (rdI (rowAt (List.map encM l) i) 1),
                        goI (rdI (rowAt (List.map encM l) i) 2), goI (rdI (rowAt (List.map encM l) i) 3)]) ∧
                TB
                  (rdI (rowAt A (0 + j)) 0 == rdI (rowAt (List.map encM l) i) 2 &&
                    (rdI (rowAt A (0 + j)) 1 == rdI (rowAt (List.map encM l) i) 3 && true))
                  ((0 ≤ (↑j : Int) ∧ (↑j : Int) < (↑(List.length F) : Int) ∧ 0 + j < List.length F) ∧
                    cutAt 1 0 F[0 + j]? = some [goI (rdI (rowAt F (0 + j)) 0)] ∧
                      (0 ≤ (↑k : Int) ∧ (↑k : Int) < (↑n : Int) ∧ 0 + k < List.length W) ∧
                        Option.map List.length W[0 + k]? = some 1 ∧
                          LoopTo Try.prog H (H 5) 0 (loopOf Try.prog 5 34)
                            (mkS 156
                              [(0, AV.sl (List.map encM l)), (7, AV.sl o), (9, AV.os 2 0 (List.length A)),
                                (10, AV.os 3 0 (List.length F)), (16, AV.os 4 0 n), (17, goI (↑i : Int)),
                                (18, goI (↑k : Int)), (19, goI (IntKind.wrap IntKind.i64 ((↑j : Int) + 1)))]
                              [Row.dead, Row.dead, Row.arr 2 A, Row.arr 1 F,
                                Row.arr 1 (List.set W (0 + k) [goI (rdI (rowAt F (0 + j)) 0)])])
                            r)
                  (LoopTo Try.prog H (H 5) 0 (loopOf Try.prog 5 34)
                    (mkS 156
                      [(0, AV.sl (List.map encM l)), (7, AV.sl o), (9, AV.os 2 0 (List.length A)),
                        (10, AV.os 3 0 (List.length F)), (16, AV.os 4 0 n), (17, goI (↑i : Int)), (18, goI (↑k : Int)),
                        (19, goI (IntKind.wrap IntKind.i64 ((↑j : Int) + 1)))]
                      [Row.dead, Row.dead, Row.arr 2 A, Row.arr 1 F, Row.arr 1 W])
                    r))
          ((Ex.exit 8,
              mkS 156
                [(0, AV.sl (List.map encM l)), (7, AV.sl o), (9, AV.os 2 0 (List.length A)),
                  (10, AV.os 3 0 (List.length F)), (16, AV.os 4 0 n), (17, goI (↑i : Int)), (18, goI (↑k : Int))]
                [Row.dead, Row.dead, Row.arr 2 A, Row.arr 1 F, Row.arr 1 W]) =
            r))
  ((Ex.exit 8,
      mkS 156
        [(0, AV.sl (List.map encM l)), (7, AV.sl o), (9, AV.os 2 0 (List.length A)), (10, AV.os 3 0 (List.length F)),
          (16, AV.os 4 0 n), (17, goI (↑i : Int)), (18, goI (↑k : Int))]
        [Row.dead, Row.dead, Row.arr 2 A, Row.arr 1 F, Row.arr 1 W]) =
    r)) := by kernel_rfl
theorem tos_nodup {l : List Mv} (h : U.right l 0 = true) : (tos l).Nodup := by
  unfold tos List.Nodup
  rw [List.pairwise_iff_getElem]
  intro i j hi hj hij
  rw [List.length_map] at hi hj
  have h2 := (right_mem h j hj).2.2 i hij
  unfold U.to at h2
  rw [List.getElem_map, List.getElem_map]
  rw [List.getD_eq_getElem?_getD, List.getD_eq_getElem?_getD, List.getElem?_eq_getElem hi, List.getElem?_eq_getElem hj] at h2
  exact h2
theorem good_moved {l : List Mv} {x : Loc} (hr : refused l x = false) : Good x (moved l) := by
  unfold refused at hr
  simp only [Bool.or_eq_false_iff, Bool.not_eq_false'] at hr
  refine ⟨?_, moved_ne l, moved_to hr.2.2⟩
  have h1 := tos_nodup hr.1
  unfold tos moved at *
  exact h1.sublist (List.filter_sublist.map _)
theorem loop7_10 (l : List Mv) (x : Loc) (o : List (List AV)) (hl : l.length < 100000) : ∀ (d i : Nat) (a : Nat), i + d = l.length → a ≤ i →
    LoopTo Try.prog H (H 7) 0 (loopOf Try.prog 7 10) (mkS 73 [(0, .sl (l.map encM)), (3, .pt 0 0 0), (5, .sl o), (7, goI a), (8, goI 0), (9, goI i)] [.box (encL x)])
      (.exit 0, mkS 73 [(3, .pt 0 0 0), (5, .sl o), (7, goI ((a + (moved (l.drop i)).length : Nat) : Int)), (8, goI 0)] [.box (encL x)])
  | 0, i, a, hd, ha => by
    refine turnK (t7_10 l x o a i _) ?_
    rw [List.length_map, decide_eq_false (by omega), List.drop_eq_nil_of_le (by omega)]
    exact rfl
  | d + 1, i, a, hd, ha => by
    have hi : i < l.length := by omega
    refine turnK (t7_10 l x o a i _) ?_
    have ef : moved (l.drop i) = if U.to l i = U.fr l i then moved (l.drop (i + 1)) else l.getD i default :: moved (l.drop (i + 1)) := by
      rw [drop_cons l hi]; unfold moved sameP U.to U.fr; simp only [List.filter_cons]
      by_cases h : (l.getD i default).to = (l.getD i default).fr <;> simp [h]
    rw [List.length_map, decide_eq_true (by omega), wrapS hi (by omega), row13 hi, map13 hi, ef]
    simp only [rdI, List.getD_cons_zero, List.getD_cons_succ, int_goI, Bool.and_true, Loc.beq]
    refine ⟨⟨by omega, by trivial⟩, ⟨by omega, by trivial⟩, ?_⟩
    by_cases h : U.to l i = U.fr l i
    · have ih := loop7_10 l x o hl d (i + 1) a (by omega) (by omega)
      rw [decide_eq_true h, if_pos h]; exact ih
    · have ih := loop7_10 l x o hl d (i + 1) (a + 1) (by omega) (by omega)
      have hw : IntKind.i64.wrap ((a : Int) + 1) = ((a + 1 : Nat) : Int) := by rw [wrap64] <;> omega
      rw [decide_eq_false h, if_neg h, List.length_cons, hw]
      have e : a + ((moved (l.drop (i + 1))).length + 1) = a + 1 + (moved (l.drop (i + 1))).length := by omega
      rw [e]
      exact ih
theorem loop7_15 (o : List Mv) (x : Loc) (a : Nat) (hl : o.length < 100000) : ∀ (d i : Nat) (b : Nat), i + d = o.length → b ≤ i →
    LoopTo Try.prog H (H 7) 0 (loopOf Try.prog 7 15) (mkS 73 [(3, .pt 0 0 0), (5, .sl (o.map encM)), (7, goI a), (8, goI b), (10, goI i)] [.box (encL x)])
      (.exit 2, mkS 73 [(5, .sl (o.map encM)), (7, goI a), (8, goI ((b + spares x (o.drop i) : Nat) : Int))] [.box (encL x)])
  | 0, i, b, hd, hb => by
    refine turnK (t7_15 o x a b i _) ?_
    rw [List.length_map, decide_eq_false (by omega), List.drop_eq_nil_of_le (by omega)]
    exact rfl
  | d + 1, i, b, hd, hb => by
    have hi : i < o.length := by omega
    refine turnK (t7_15 o x a b i _) ?_
    have ef : spares x (o.drop i) = (if U.to o i = x then 1 else 0) + spares x (o.drop (i + 1)) := by
      rw [drop_cons o hi]; unfold spares tos U.to; rw [List.map_cons, List.count_cons]
      simp only [beq_iff_eq]; omega
    rw [List.length_map, decide_eq_true (by omega), wrapS hi (by omega), row13 hi, map13 hi, ef]
    simp only [rdI, List.getD_cons_zero, List.getD_cons_succ, int_goI, Bool.and_true, Loc.beq]
    refine ⟨⟨by omega, by trivial⟩, ?_⟩
    by_cases h : U.to o i = x
    · have ih := loop7_15 o x a hl d (i + 1) (b + 1) (by omega) (by omega)
      have hw : IntKind.i64.wrap ((b : Int) + 1) = ((b + 1 : Nat) : Int) := by rw [wrap64] <;> omega
      rw [decide_eq_true h, if_pos h, hw, ← Nat.add_assoc]; exact ih
    · have ih := loop7_15 o x a hl d (i + 1) b (by omega) (by omega)
      rw [decide_eq_false h, if_neg h, Nat.zero_add]
      exact ih
theorem ordered_len {l : List Mv} {x : Loc} (hr : refused l x = false) : (ordered l x).length = (moved l).length + spares x (ordered l x) ∧ 2 * spares x (ordered l x) ≤ (moved l).length := by
  have h := ord_len x (mu (moved l)) (moved l) [] (Nat.le_refl _) (good_moved hr)
  have e : spares x [] = 0 := rfl
  rw [e] at h
  unfold ordered
  simp only [List.length_nil, Nat.zero_add, Nat.add_zero, Nat.mul_zero] at h
  exact ⟨h.1, h.2.2⟩
theorem wf7 (l : List Mv) (x : Loc) (hw : ∀ m ∈ l, m.ok) (hx : x.ok) : Wf Try.prog H 7 [.sl (l.map encM), .agg (encL x)] [] = some (goB true, [], []) := by
  by_cases hl : 40 < l.length
  · refine runK (t7a l x _) ⟨wf8, ?_⟩
    rw [List.length_map, decide_eq_true (by omega)]; exact rfl
  cases hr : refused l x with
  | true =>
    refine runK (t7a l x _) ⟨wf8, ?_⟩
    rw [List.length_map, decide_eq_false (by omega)]
    exact ⟨wf9_no l x (by omega) hw hr, rfl⟩
  | false =>
    obtain ⟨h1, h2⟩ := ordered_len hr
    have hml : (moved l).length ≤ l.length := List.length_filter_le _ _
    have h10 := loop7_10 l x ((ordered l x).map encM) (by omega) l.length 0 0 (by omega) (Nat.le_refl _)
    have h15 := loop7_15 (ordered l x) x (moved l).length (by omega) (ordered l x).length 0 0 (by omega) (Nat.le_refl _)
    rw [List.drop_zero, Nat.zero_add] at h10 h15
    refine runK (t7b l x ((ordered l x).map encM).length ((ordered l x).map encM) (moved l).length (spares x (ordered l x)) _) ⟨wf8, ?_⟩
    rw [show (l.map encM).length = l.length from List.length_map _, decide_eq_false (by omega), take_all]
    have e1 : IntKind.i64.wrap (((moved l).length : Int) + ((spares x (ordered l x) : Nat) : Int)) = (((ordered l x).map encM).length : Int) := by
      rw [List.length_map, wrap64] <;> omega
    have e2 : IntKind.i64.wrap (2 * ((spares x (ordered l x) : Nat) : Int)) = 2 * ((spares x (ordered l x) : Nat) : Int) := by rw [wrap64] <;> omega
    refine ⟨wf9_ok l x (by omega) hw hx hr, h10, h15, ?_⟩
    rw [e1, e2, beq_self_eq_true, decide_eq_true (by omega)]
    exact rfl
/-! ParOnce. -/
namespace U
def spot (l : List Mv) (i : Nat) : Loc := if i % 2 = 1 then fr l (i / 2) else to l (i / 2)
end U
theorem loop5_18 (l : List Mv) (hs : List Int) (o : List (List AV)) (x y : Loc) (i : Nat) (A : List Loc) (hA : A.length < 100000) (F : List (List AV)) : ∀ (d j : Nat) (b : Bool), j + d = A.length →
    LoopTo Try.prog H (H 5) 0 (loopOf Try.prog 5 18) (mkS 156 [(0, .sl (l.map encM)), (2, .sl (hs.map encI)), (7, .sl o), (9, .os 2 0 (A.map encL).length), (10, .os 3 0 F.length), (11, goI i), (12, .pt 1 0 0), (13, goB b), (14, goI j)] [.box (encL x), .box (encL y), .arr 2 (A.map encL), .arr 1 F, .dead])
      (.exit 2, mkS 156 [(0, .sl (l.map encM)), (2, .sl (hs.map encI)), (7, .sl o), (9, .os 2 0 (A.map encL).length), (10, .os 3 0 F.length), (11, goI i), (12, .pt 1 0 0), (13, goB (b || U.hasFrom A y j))] [.box (encL x), .box (encL y), .arr 2 (A.map encL), .arr 1 F, .dead])
  | 0, j, b, hd => by
    refine turnK (t5_18 l hs o x y i j b _ F _) ?_
    have hj : j = A.length := by omega
    subst hj
    rw [List.length_map, decide_eq_false (by omega)]
    have e : U.hasFrom A y A.length = false := by simp [U.hasFrom, allFrom_end]
    rw [e, Bool.or_false]
    exact rfl
  | d + 1, j, b, hd => by
    have hj : j < A.length := by omega
    refine turnK (t5_18 l hs o x y i j b _ F _) ?_
    have ih := fun b => loop5_18 l hs o x y i A hA F d (j + 1) b (by omega)
    have hs2 : U.hasFrom A y j = (decide (U.lc A j = y) || U.hasFrom A y (j + 1)) := by
      unfold U.hasFrom; rw [allFrom_step _ hj]; simp [Bool.not_and]
    rw [List.length_map] at ih ⊢
    rw [decide_eq_true (by omega), wrapS hj (by omega), Nat.zero_add, rowL hj, getL hj, hs2]
    simp only [rdI, List.getD_cons_zero, List.getD_cons_succ, int_goI, Bool.and_true, Loc.beq]
    cases b with
    | true => exact ih true
    | false =>
      refine ⟨⟨by omega, by omega, by omega⟩, by trivial, ?_⟩
      have h1 := ih (decide (U.lc A j = y))
      simp only [Bool.false_or] at h1 ⊢
      exact h1
theorem hasFrom_iff {A : List Loc} {y : Loc} : U.hasFrom A y 0 = true ↔ y ∈ A := by
  unfold U.hasFrom
  rw [Bool.not_eq_true', ← Bool.not_eq_true, allFrom_iff]
  constructor
  · intro h
    false_or_by_contra
    rename_i hn
    refine h (fun j _ hj => ?_)
    simp only [Bool.not_eq_true', decide_eq_false_iff_not]
    intro e
    apply hn
    rw [← e]
    unfold U.lc
    rw [List.getD_eq_getElem?_getD, List.getElem?_eq_getElem hj]
    exact List.getElem_mem hj
  · intro h h2
    obtain ⟨j, hj⟩ := List.getElem?_of_mem h
    have hjl := (List.getElem?_eq_some_iff.1 hj).1
    have := h2 j (Nat.zero_le _) hjl
    unfold U.lc at this
    rw [List.getD_eq_getElem?_getD, hj] at this
    simp at this
theorem loop5_11 (l : List Mv) (hs : List Int) (o : List (List AV)) (x : Loc) (hl : l.length ≤ 40) : ∀ (d i : Nat) (A : List Loc) (F : List Int), i + d = 2 * l.length → A.length ≤ i → F.length = A.length → A.Nodup → (∀ j, j < i → U.spot l j ∈ A) → (∀ p ∈ A, ∃ j, j < 2 * l.length ∧ p = U.spot l j) →
    ∃ (A' : List Loc) (F' : List Int), F'.length = A'.length ∧ A'.length ≤ 80 ∧ A'.Nodup ∧ (∀ j, j < 2 * l.length → U.spot l j ∈ A') ∧ (∀ p ∈ A', ∃ j, j < 2 * l.length ∧ p = U.spot l j) ∧
    LoopTo Try.prog H (H 5) 0 (loopOf Try.prog 5 11) (mkS 156 [(0, .sl (l.map encM)), (2, .sl (hs.map encI)), (7, .sl o), (9, .os 2 0 (A.map encL).length), (10, .os 3 0 (F.map encI).length), (11, goI i)] [.box (encL x), .dead, .arr 2 (A.map encL), .arr 1 (F.map encI), .dead])
      (.exit 0, mkS 156 [(0, .sl (l.map encM)), (7, .sl o), (9, .os 2 0 (A'.map encL).length), (10, .os 3 0 (F'.map encI).length)] [.dead, .dead, .arr 2 (A'.map encL), .arr 1 (F'.map encI), .dead])
  | 0, i, A, F, hd, h1, h2, h3, h4, h5 => ⟨A, F, h2, by omega, h3, fun j hj => h4 j (by omega), h5, by
    refine turnK (t5_11 l hs o x x i true _ _ _) ?_
    have hw : IntKind.i64.wrap (2 * ((l.map encM).length : Int)) = 2 * (l.length : Int) := by rw [List.length_map, wrap64] <;> omega
    rw [hw, decide_eq_false (by omega)]
    exact rfl⟩
  | d + 1, i, A, F, hd, h1, h2, h3, h4, h5 => by
    have hi : i < 2 * l.length := by omega
    have hq : i / 2 < l.length := by omega
    have hw : IntKind.i64.wrap (2 * ((l.map encM).length : Int)) = 2 * (l.length : Int) := by rw [List.length_map, wrap64] <;> omega
    have hdiv : IntKind.i64.wrap (Int.tdiv (i : Int) 2) = ((i / 2 : Nat) : Int) := by
      have : Int.tdiv (i : Int) 2 = ((i / 2 : Nat) : Int) := rfl
      rw [this, wrap64] <;> omega
    have hmod : (Int.tmod (i : Int) 2 == 1) = decide (i % 2 = 1) := by
      have : Int.tmod (i : Int) 2 = ((i % 2 : Nat) : Int) := rfl
      rw [this, Bool.eq_iff_iff]; simp; omega
    have h18 := loop5_18 l hs o x (U.spot l i) i A (by omega) (F.map encI) A.length 0 false (by omega)
    rw [Bool.false_or] at h18
    have wI : IntKind.i64.wrap ((i : Int) + 1) = ((i + 1 : Nat) : Int) := by rw [wrap64] <;> omega
    have wK : IntKind.i64.wrap (1000 + (i : Int)) = 1000 + (i : Int) := by rw [wrap64] <;> omega
    generalize hy : U.spot l i = y at h18
    have two : iz 2 ≠ 0 := by decide
    by_cases hyA : y ∈ A
    · have hb : U.hasFrom A y 0 = true := hasFrom_iff.2 hyA
      rw [hb] at h18
      obtain ⟨A', F', g1, g2, g3, g4, g5, ih⟩ := loop5_11 l hs o x hl d (i + 1) A F (by omega) (by omega) h2 h3 (fun j hj => by
        by_cases e : j = i
        · subst e; rw [hy]; exact hyA
        · exact h4 j (by omega)) h5
      refine ⟨A', F', g1, g2, g3, g4, g5, ?_⟩
      refine turnK (t5_11 l hs o x y i true _ _ _) ?_
      rw [hw, decide_eq_true (by omega), hdiv, Int.toNat_natCast, row13 hq, map13 hq, hmod, wI]
      simp only [rdI, List.getD_cons_zero, List.getD_cons_succ, int_goI]
      unfold U.spot at hy
      by_cases hpar : i % 2 = 1
      · rw [if_pos hpar] at hy
        rw [decide_eq_true hpar, hy]
        exact ⟨two, ⟨by omega, by trivial⟩, two, two, ⟨by omega, by trivial⟩, h18, ih⟩
      · rw [if_neg hpar] at hy
        rw [decide_eq_false hpar, hy]
        exact ⟨two, ⟨by omega, by trivial⟩, two, h18, ih⟩
    · have hb : U.hasFrom A y 0 = false := by rw [← Bool.not_eq_true, hasFrom_iff]; exact hyA
      rw [hb] at h18
      have go : ∀ v : Int, ∃ (A' : List Loc) (F' : List Int), F'.length = A'.length ∧ A'.length ≤ 80 ∧ A'.Nodup ∧ (∀ j, j < 2 * l.length → U.spot l j ∈ A') ∧ (∀ p ∈ A', ∃ j, j < 2 * l.length ∧ p = U.spot l j) ∧
          LoopTo Try.prog H (H 5) 0 (loopOf Try.prog 5 11) (mkS 156 [(0, .sl (l.map encM)), (2, .sl (hs.map encI)), (7, .sl o), (9, .os 2 0 ((A.map encL).length + 1)), (10, .os 3 0 ((F.map encI).length + 1)), (11, goI ((i + 1 : Nat) : Int))] [.box (encL x), .dead, .arr 2 (A.map encL ++ [[goI y.k, goI y.n]]), .arr 1 (F.map encI ++ [[goI v]]), .dead])
            (.exit 0, mkS 156 [(0, .sl (l.map encM)), (7, .sl o), (9, .os 2 0 (A'.map encL).length), (10, .os 3 0 (F'.map encI).length)] [.dead, .dead, .arr 2 (A'.map encL), .arr 1 (F'.map encI), .dead]) := fun v => by
        obtain ⟨A', F', g1, g2, g3, g4, g5, ih⟩ := loop5_11 l hs o x hl d (i + 1) (A ++ [y]) (F ++ [v]) (by omega) (by simp; omega) (by simp [h2]) (by
          rw [List.nodup_append]
          refine ⟨h3, by simp, fun a ha b hb e => ?_⟩
          simp at hb
          subst hb
          subst e
          exact hyA ha) (fun j hj => by
          by_cases e : j = i
          · subst e; rw [hy]; simp
          · have := h4 j (by omega); simp [this]) (fun p hp => by
          rcases List.mem_append.1 hp with hp | hp
          · exact h5 p hp
          · simp at hp; exact ⟨i, hi, by rw [hp, hy]⟩)
        refine ⟨A', F', g1, g2, g3, g4, g5, ?_⟩
        rw [List.map_append, List.map_append, List.length_append, List.length_append] at ih
        exact ih
      by_cases hin : i < hs.length
      · obtain ⟨A', F', g1, g2, g3, g4, g5, ih⟩ := go (U.nt hs i)
        refine ⟨A', F', g1, g2, g3, g4, g5, ?_⟩
        refine turnK (t5_11 l hs o x y i false _ _ _) ?_
        rw [hw, decide_eq_true (by omega), hdiv, Int.toNat_natCast, row13 hq, map13 hq, hmod, wI, rowI hin, getI hin]
        simp only [rdI, List.getD_cons_zero, List.getD_cons_succ, int_goI]
        have hdc : decide ((i : Int) < ((hs.map encI).length : Int)) = true := by rw [List.length_map]; exact decide_eq_true (by omega)
        rw [hdc]
        unfold U.spot at hy
        by_cases hpar : i % 2 = 1
        · rw [if_pos hpar] at hy
          rw [decide_eq_true hpar, hy]
          exact ⟨two, ⟨by omega, by trivial⟩, two, two, ⟨by omega, by trivial⟩, h18, ⟨by omega, by trivial⟩, by trivial, ⟨by trivial, by simp; omega⟩, by trivial, ⟨by trivial, by simp; omega⟩, ih⟩
        · rw [if_neg hpar] at hy
          rw [decide_eq_false hpar, hy]
          exact ⟨two, ⟨by omega, by trivial⟩, two, h18, ⟨by omega, by trivial⟩, by trivial, ⟨by trivial, by simp; omega⟩, by trivial, ⟨by trivial, by simp; omega⟩, ih⟩
      · obtain ⟨A', F', g1, g2, g3, g4, g5, ih⟩ := go (1000 + (i : Int))
        refine ⟨A', F', g1, g2, g3, g4, g5, ?_⟩
        refine turnK (t5_11 l hs o x y i false _ _ _) ?_
        rw [hw, decide_eq_true (by omega), hdiv, Int.toNat_natCast, row13 hq, map13 hq, hmod, wI, wK]
        simp only [rdI, List.getD_cons_zero, List.getD_cons_succ, int_goI]
        have hdc : decide ((i : Int) < ((hs.map encI).length : Int)) = false := by rw [List.length_map]; exact decide_eq_false (by omega)
        rw [hdc]
        unfold U.spot at hy
        by_cases hpar : i % 2 = 1
        · rw [if_pos hpar] at hy
          rw [decide_eq_true hpar, hy]
          exact ⟨two, ⟨by omega, by trivial⟩, two, two, ⟨by omega, by trivial⟩, h18, by trivial, ⟨by trivial, by simp; omega⟩, by trivial, ⟨by trivial, by simp; omega⟩, ih⟩
        · rw [if_neg hpar] at hy
          rw [decide_eq_false hpar, hy]
          exact ⟨two, ⟨by omega, by trivial⟩, two, h18, by trivial, ⟨by trivial, by simp; omega⟩, by trivial, ⟨by trivial, by simp; omega⟩, ih⟩
end Go.Proofs.Ythbkemkjkpaoaab.E
