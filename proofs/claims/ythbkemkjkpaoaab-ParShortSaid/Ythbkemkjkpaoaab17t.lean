/- Functions, by what the evaluator asks; the theorems t.. were printed by show.txt, a program of this session. -/
import Derived.Test.Ythbkemkjkpaoaab17s
set_option linter.unusedVariables false
set_option linter.unusedSimpArgs false
set_option maxRecDepth 100000
namespace Go.Proofs.Ythbkemkjkpaoaab.E
open Go
namespace U
def idxR (xs : List (List AV)) (k n : Int) : Int := firstOf (fun j => decide (rdI (rowAt xs j) 0 = k ∧ rdI (rowAt xs j) 1 = n)) xs.length 0
end U
def F16 : CallF := fun f args sto => match f, args with
 | 31, [.sl xs, .agg [.v (.int _ k), .v (.int _ n)]] => some (goI (U.idxR xs k n), [], [])
 | _, _ => none
def L16 (l : List Mv) (at_ : List Loc) (n : Nat) (o0 o1 : List (List AV)) : Nat → St → LT := fun id st => match id with
 | 3 => .is (.exit 0) (mkS 118 [(0, .sl (l.map encM)), (1, .sl (at_.map encL)), (7, .os 0 0 n)] [.arr 1 o0, .dead, .dead])
 | 9 => .is (.exit 2) (mkS 118 [(7, .os 0 0 n)] [.arr 1 o1, .dead, .dead])
 | _ => .no

theorem t16 (l : List Mv) (at_ : List Loc) (hs : List Int) (n : Nat) (o0 : List (List AV)) (o1 : List (List AV)) (r : AV × List Row × List Nat) : (runT Try.prog H (fun f args sto => CT.of (F0 f args sto)) (L16 l at_ n o0 o1) false 16
  [AV.sl (List.map encM l), AV.sl (List.map encL at_), AV.sl (List.map encI hs)] [] fun q => q = r) = ((0 ≤ (↑(List.length (List.map encL at_)) : Int) ∧
    (↑(List.length (List.map encL at_)) : Int) ≤ (↑(List.length (List.map encL at_)) : Int) ∧
      (↑(List.length (List.map encL at_)) : Int) ≤ (↑1000000 : Int)) ∧
  LoopTo Try.prog H (H 16) 0 (loopOf Try.prog 16 3)
      (mkS 118
        [(0, AV.sl (List.map encM l)), (1, AV.sl (List.map encL at_)), (2, AV.sl (List.map encI hs)),
          (7, AV.os 0 0 (List.length (List.replicate (List.length (List.map encL at_)) [goI 0]))), (8, goI 0)]
        [Row.arr 1 (List.replicate (List.length (List.map encL at_)) [goI 0]), Row.dead, Row.dead])
      (Ex.exit 0,
        mkS 118 [(0, AV.sl (List.map encM l)), (1, AV.sl (List.map encL at_)), (7, AV.os 0 0 n)]
          [Row.arr 1 o0, Row.dead, Row.dead]) ∧
    LoopTo Try.prog H (H 16) 0 (loopOf Try.prog 16 9)
        (mkS 118
          [(0, AV.sl (List.map encM l)), (1, AV.sl (List.map encL at_)), (7, AV.os 0 0 n), (9, AV.os 1 0 0),
            (10, AV.os 2 0 0), (11, goI 0)]
          [Row.arr 1 o0, Row.arr 2 [], Row.arr 1 []])
        (Ex.exit 2, mkS 118 [(7, AV.os 0 0 n)] [Row.arr 1 o1, Row.dead, Row.dead]) ∧
      (AV.os 0 0 n, [Row.arr 1 o1], []) = r) := by kernel_rfl
theorem t16_3 (l : List Mv) (at_ : List Loc) (hs : List Int) (n : Nat) (i : Nat) (o : List (List AV)) (r : Ex × St) : (turnT Try.prog H (fun f args sto => CT.of (F0 f args sto)) L0 false (H 16) 0 (loopOf Try.prog 16 3)
  (mkS 118
    [(0, AV.sl (List.map encM l)), (1, AV.sl (List.map encL at_)), (2, AV.sl (List.map encI hs)), (7, AV.os 0 0 n),
      (8, goI (↑i : Int))]
    [Row.arr 1 o, Row.dead, Row.dead])
  r) = (TB (decide ((↑i : Int) < (↑(List.length (List.map encL at_)) : Int)))
  (TB (decide ((↑i : Int) < (↑(List.length (List.map encI hs)) : Int)))
    ((0 ≤ (↑i : Int) ∧ (List.map encI hs)[i]? = some [goI (rdI (rowAt (List.map encI hs) i) 0)]) ∧
      (0 ≤ (↑i : Int) ∧ (↑i : Int) < (↑n : Int) ∧ 0 + i < List.length o) ∧
        Option.map List.length o[0 + i]? = some 1 ∧
          LoopTo Try.prog H (H 16) 0 (loopOf Try.prog 16 3)
            (mkS 118
              [(0, AV.sl (List.map encM l)), (1, AV.sl (List.map encL at_)), (2, AV.sl (List.map encI hs)),
                (7, AV.os 0 0 n), (8, goI (IntKind.wrap IntKind.i64 ((↑i : Int) + 1)))]
              [Row.arr 1 (List.set o (0 + i) [goI (rdI (rowAt (List.map encI hs) i) 0)]), Row.dead, Row.dead])
            r)
    ((Ex.exit 0,
        mkS 118 [(0, AV.sl (List.map encM l)), (1, AV.sl (List.map encL at_)), (7, AV.os 0 0 n)]
          [Row.arr 1 o, Row.dead, Row.dead]) =
      r))
  ((Ex.exit 0,
      mkS 118 [(0, AV.sl (List.map encM l)), (1, AV.sl (List.map encL at_)), (7, AV.os 0 0 n)]
        [Row.arr 1 o, Row.dead, Row.dead]) =
    r)) := by kernel_rfl
theorem t16_9 (l : List Mv) (at_ : List Loc) (n : Nat) (k1 : Nat) (k2 : Nat) (i : Nat) (o : List (List AV)) (ms : List (List AV)) (ws : List (List AV)) (r : Ex × St) : (turnT Try.prog H (fun f args sto => CT.of (F16 f args sto)) L0 false (H 16) 0 (loopOf Try.prog 16 9)
  (mkS 118
    [(0, AV.sl (List.map encM l)), (1, AV.sl (List.map encL at_)), (7, AV.os 0 0 n), (9, AV.os 1 0 k1),
      (10, AV.os 2 0 k2), (11, goI (↑i : Int))]
    [Row.arr 1 o, Row.arr 2 ms, Row.arr 1 ws])
  r) = (TB (decide ((↑i : Int) < (↑(List.length (List.map encM l)) : Int)))
  ((0 ≤ (↑i : Int) ∧
      (List.map encM l)[i]? =
        some
          [goI (rdI (rowAt (List.map encM l) i) 0), goI (rdI (rowAt (List.map encM l) i) 1),
            goI (rdI (rowAt (List.map encM l) i) 2), goI (rdI (rowAt (List.map encM l) i) 3)]) ∧
    Wf Try.prog H 31
          [AV.sl (List.map encL at_),
            AV.agg [goI (rdI (rowAt (List.map encM l) i) 2), goI (rdI (rowAt (List.map encM l) i) 3)]]
          [] =
        some
          (goI (U.idxR (List.map encL at_) (rdI (rowAt (List.map encM l) i) 2) (rdI (rowAt (List.map encM l) i) 3)), [],
            []) ∧
      TB
        (decide
          (U.idxR (List.map encL at_) (rdI (rowAt (List.map encM l) i) 2) (rdI (rowAt (List.map encM l) i) 3) ≥ 0))
        ((0 ≤ U.idxR (List.map encL at_) (rdI (rowAt (List.map encM l) i) 2) (rdI (rowAt (List.map encM l) i) 3) ∧
            U.idxR (List.map encL at_) (rdI (rowAt (List.map encM l) i) 2) (rdI (rowAt (List.map encM l) i) 3) <
                (↑n : Int) ∧
              0 +
                  Int.toNat
                    (U.idxR (List.map encL at_) (rdI (rowAt (List.map encM l) i) 2)
                      (rdI (rowAt (List.map encM l) i) 3)) <
                List.length o) ∧
          cutAt 1 0
                o[0 +
                    Int.toNat
                      (U.idxR (List.map encL at_) (rdI (rowAt (List.map encM l) i) 2)
                        (rdI (rowAt (List.map encM l) i) 3))]? =
              some
                [goI
                    (rdI
                      (rowAt o
                        (0 +
                          Int.toNat
                            (U.idxR (List.map encL at_) (rdI (rowAt (List.map encM l) i) 2)
                              (rdI (rowAt (List.map encM l) i) 3))))
                      0)] ∧
            (0 ≤ (↑i : Int) ∧
                (List.map encM l)[i]? =
                  some
                    [goI (rdI (rowAt (List.map encM l) i) 0), goI (rdI (rowAt (List.map encM l) i) 1),
                      goI (rdI (rowAt (List.map encM l) i) 2), goI (rdI (rowAt (List.map encM l) i) 3)]) ∧
              Wf Try.prog H 31
                    [AV.sl (List.map encL at_),
                      AV.agg [goI (rdI (rowAt (List.map encM l) i) 0), goI (rdI (rowAt (List.map encM l) i) 1)]]
                    [] =
                  some
                    (goI
                        (U.idxR (List.map encL at_) (rdI (rowAt (List.map encM l) i) 0)
                          (rdI (rowAt (List.map encM l) i) 1)),
                      [], []) ∧
                TB
                  (decide
                    (U.idxR (List.map encL at_) (rdI (rowAt (List.map encM l) i) 0)
                        (rdI (rowAt (List.map encM l) i) 1) ≥
                      0))
                  ((0 ≤
                        U.idxR (List.map encL at_) (rdI (rowAt (List.map encM l) i) 0)
                          (rdI (rowAt (List.map encM l) i) 1) ∧
                      U.idxR (List.map encL at_) (rdI (rowAt (List.map encM l) i) 0)
                            (rdI (rowAt (List.map encM l) i) 1) <
                          (↑n : Int) ∧
                        0 +
                            Int.toNat
                              (U.idxR (List.map encL at_) (rdI (rowAt (List.map encM l) i) 0)
                                (rdI (rowAt (List.map encM l) i) 1)) <
                          List.length o) ∧
                    Option.map List.length
                          o[0 +
                              Int.toNat
                                (U.idxR (List.map encL at_) (rdI (rowAt (List.map encM l) i) 0)
                                  (rdI (rowAt (List.map encM l) i) 1))]? =
                        some 1 ∧
                      LoopTo Try.prog H (H 16) 0 (loopOf Try.prog 16 9)
                        (mkS 118
                          [(0, AV.sl (List.map encM l)), (1, AV.sl (List.map encL at_)), (7, AV.os 0 0 n),
                            (9, AV.os 1 0 k1), (10, AV.os 2 0 k2),
                            (11, goI (IntKind.wrap IntKind.i64 ((↑i : Int) + 1)))]
                          [Row.arr 1
                              (List.set o
                                (0 +
                                  Int.toNat
                                    (U.idxR (List.map encL at_) (rdI (rowAt (List.map encM l) i) 0)
                                      (rdI (rowAt (List.map encM l) i) 1)))
                                [goI
                                    (rdI
                                      (rowAt o
                                        (0 +
                                          Int.toNat
                                            (U.idxR (List.map encL at_) (rdI (rowAt (List.map encM l) i) 2)
                                              (rdI (rowAt (List.map encM l) i) 3))))
                                      0)]),
                            Row.arr 2 ms, Row.arr 1 ws])
                        r)
                  ((0 ≤ (↑i : Int) ∧
                      (List.map encM l)[i]? =
                        some
                          [goI (rdI (rowAt (List.map encM l) i) 0), goI (rdI (rowAt (List.map encM l) i) 1),
                            goI (rdI (rowAt (List.map encM l) i) 2), goI (rdI (rowAt (List.map encM l) i) 3)]) ∧
                    Wf Try.prog H 31
                          [AV.sl (List.take k1 (List.drop 0 ms)),
                            AV.agg [goI (rdI (rowAt (List.map encM l) i) 0), goI (rdI (rowAt (List.map encM l) i) 1)]]
                          [] =
                        some
                          (goI
                              (U.idxR (List.take k1 (List.drop 0 ms)) (rdI (rowAt (List.map encM l) i) 0)
                                (rdI (rowAt (List.map encM l) i) 1)),
                            [], []) ∧
                      TB
                        (decide
                          (U.idxR (List.take k1 (List.drop 0 ms)) (rdI (rowAt (List.map encM l) i) 0)
                              (rdI (rowAt (List.map encM l) i) 1) ≥
                            0))
                        ((0 ≤ (↑i : Int) ∧
                            (List.map encM l)[i]? =
                              some
                                [goI (rdI (rowAt (List.map encM l) i) 0), goI (rdI (rowAt (List.map encM l) i) 1),
                                  goI (rdI (rowAt (List.map encM l) i) 2), goI (rdI (rowAt (List.map encM l) i) 3)]) ∧
                          Wf Try.prog H 31
                                [AV.sl (List.take k1 (List.drop 0 ms)),
                                  AV.agg
                                    [goI (rdI (rowAt (List.map encM l) i) 0), goI (rdI (rowAt (List.map encM l) i) 1)]]
                                [] =
                              some
                                (goI
                                    (U.idxR (List.take k1 (List.drop 0 ms)) (rdI (rowAt (List.map encM l) i) 0)
                                      (rdI (rowAt (List.map encM l) i) 1)),
                                  [], []) ∧
                            (0 ≤
                                  U.idxR (List.take k1 (List.drop 0 ms)) (rdI (rowAt (List.map encM l) i) 0)
                                    (rdI (rowAt (List.map encM l) i) 1) ∧
                                U.idxR (List.take k1 (List.drop 0 ms)) (rdI (rowAt (List.map encM l) i) 0)
                                      (rdI (rowAt (List.map encM l) i) 1) <
                                    (↑k2 : Int) ∧
                                  0 +
                                      Int.toNat
                                        (U.idxR (List.take k1 (List.drop 0 ms)) (rdI (rowAt (List.map encM l) i) 0)
                                          (rdI (rowAt (List.map encM l) i) 1)) <
                                    List.length ws) ∧
                              Option.map List.length
                                    ws[0 +
                                        Int.toNat
                                          (U.idxR (List.take k1 (List.drop 0 ms)) (rdI (rowAt (List.map encM l) i) 0)
                                            (rdI (rowAt (List.map encM l) i) 1))]? =
                                  some 1 ∧
                                LoopTo Try.prog H (H 16) 0 (loopOf Try.prog 16 9)
                                  (mkS 118
                                    [(0, AV.sl (List.map encM l)), (1, AV.sl (List.map encL at_)), (7, AV.os 0 0 n),
                                      (9, AV.os 1 0 k1), (10, AV.os 2 0 k2),
                                      (11, goI (IntKind.wrap IntKind.i64 ((↑i : Int) + 1)))]
                                    [Row.arr 1 o, Row.arr 2 ms,
                                      Row.arr 1
                                        (List.set ws
                                          (0 +
                                            Int.toNat
                                              (U.idxR (List.take k1 (List.drop 0 ms))
                                                (rdI (rowAt (List.map encM l) i) 0)
                                                (rdI (rowAt (List.map encM l) i) 1)))
                                          [goI
                                              (rdI
                                                (rowAt o
                                                  (0 +
                                                    Int.toNat
                                                      (U.idxR (List.map encL at_) (rdI (rowAt (List.map encM l) i) 2)
                                                        (rdI (rowAt (List.map encM l) i) 3))))
                                                0)])])
                                  r)
                        ((0 ≤ (↑i : Int) ∧
                            (List.map encM l)[i]? =
                              some
                                [goI (rdI (rowAt (List.map encM l) i) 0), goI (rdI (rowAt (List.map encM l) i) 1),
                                  goI (rdI (rowAt (List.map encM l) i) 2), goI (rdI (rowAt (List.map encM l) i) 3)]) ∧
                          true = true ∧
                            (k1 = List.length ms ∧ k1 + 1 ≤ 1000000) ∧
                              true = true ∧
                                (k2 = List.length ws ∧ k2 + 1 ≤ 1000000) ∧
                                  LoopTo Try.prog H (H 16) 0 (loopOf Try.prog 16 9)
                                    (mkS 118
                                      [(0, AV.sl (List.map encM l)), (1, AV.sl (List.map encL at_)), (7, AV.os 0 0 n),
                                        (9, AV.os 1 0 (k1 + 1)), (10, AV.os 2 0 (k2 + 1)),
                                        (11, goI (IntKind.wrap IntKind.i64 ((↑i : Int) + 1)))]
                                      [Row.arr 1 o,
                                        Row.arr 2
                                          (ms ++
                                            [[goI (rdI (rowAt (List.map encM l) i) 0),
                                                goI (rdI (rowAt (List.map encM l) i) 1)]]),
                                        Row.arr 1
                                          (ws ++
                                            [[goI
                                                  (rdI
                                                    (rowAt o
                                                      (0 +
                                                        Int.toNat
                                                          (U.idxR (List.map encL at_)
                                                            (rdI (rowAt (List.map encM l) i) 2)
                                                            (rdI (rowAt (List.map encM l) i) 3))))
                                                    0)]])])
                                    r)))
        ((0 ≤ (↑i : Int) ∧
            (List.map encM l)[i]? =
              some
                [goI (rdI (rowAt (List.map encM l) i) 0), goI (rdI (rowAt (List.map encM l) i) 1),
                  goI (rdI (rowAt (List.map encM l) i) 2), goI (rdI (rowAt (List.map encM l) i) 3)]) ∧
          Wf Try.prog H 31
                [AV.sl (List.take k1 (List.drop 0 ms)),
                  AV.agg [goI (rdI (rowAt (List.map encM l) i) 2), goI (rdI (rowAt (List.map encM l) i) 3)]]
                [] =
              some
                (goI
                    (U.idxR (List.take k1 (List.drop 0 ms)) (rdI (rowAt (List.map encM l) i) 2)
                      (rdI (rowAt (List.map encM l) i) 3)),
                  [], []) ∧
            TB
              (decide
                (U.idxR (List.take k1 (List.drop 0 ms)) (rdI (rowAt (List.map encM l) i) 2)
                    (rdI (rowAt (List.map encM l) i) 3) ≥
                  0))
              ((0 ≤ (↑i : Int) ∧
                  (List.map encM l)[i]? =
                    some
                      [goI (rdI (rowAt (List.map encM l) i) 0), goI (rdI (rowAt (List.map encM l) i) 1),
                        goI (rdI (rowAt (List.map encM l) i) 2), goI (rdI (rowAt (List.map encM l) i) 3)]) ∧
                Wf Try.prog H 31
                      [AV.sl (List.take k1 (List.drop 0 ms)),
                        AV.agg [goI (rdI (rowAt (List.map encM l) i) 2), goI (rdI (rowAt (List.map encM l) i) 3)]]
                      [] =
                    some
                      (goI
                          (U.idxR (List.take k1 (List.drop 0 ms)) (rdI (rowAt (List.map encM l) i) 2)
                            (rdI (rowAt (List.map encM l) i) 3)),
                        [], []) ∧
                  (0 ≤
                        U.idxR (List.take k1 (List.drop 0 ms)) (rdI (rowAt (List.map encM l) i) 2)
                          (rdI (rowAt (List.map encM l) i) 3) ∧
                      U.idxR (List.take k1 (List.drop 0 ms)) (rdI (rowAt (List.map encM l) i) 2)
                            (rdI (rowAt (List.map encM l) i) 3) <
                          (↑k2 : Int) ∧
                        0 +
                            Int.toNat
                              (U.idxR (List.take k1 (List.drop 0 ms)) (rdI (rowAt (List.map encM l) i) 2)
                                (rdI (rowAt (List.map encM l) i) 3)) <
                          List.length ws) ∧
                    cutAt 1 0
                          ws[0 +
                              Int.toNat
                                (U.idxR (List.take k1 (List.drop 0 ms)) (rdI (rowAt (List.map encM l) i) 2)
                                  (rdI (rowAt (List.map encM l) i) 3))]? =
                        some
                          [goI
                              (rdI
                                (rowAt ws
                                  (0 +
                                    Int.toNat
                                      (U.idxR (List.take k1 (List.drop 0 ms)) (rdI (rowAt (List.map encM l) i) 2)
                                        (rdI (rowAt (List.map encM l) i) 3))))
                                0)] ∧
                      (0 ≤ (↑i : Int) ∧
                          (List.map encM l)[i]? =
                            some
                              [goI (rdI (rowAt (List.map encM l) i) 0), goI (rdI (rowAt (List.map encM l) i) 1),
                                goI (rdI (rowAt (List.map encM l) i) 2), goI (rdI (rowAt (List.map encM l) i) 3)]) ∧
                        Wf Try.prog H 31
                              [AV.sl (List.map encL at_),
                                AV.agg
                                  [goI (rdI (rowAt (List.map encM l) i) 0), goI (rdI (rowAt (List.map encM l) i) 1)]]
                              [] =
                            some
                              (goI
                                  (U.idxR (List.map encL at_) (rdI (rowAt (List.map encM l) i) 0)
                                    (rdI (rowAt (List.map encM l) i) 1)),
                                [], []) ∧
                          TB
                            (decide
                              (U.idxR (List.map encL at_) (rdI (rowAt (List.map encM l) i) 0)
                                  (rdI (rowAt (List.map encM l) i) 1) ≥
                                0))
                            ((0 ≤
                                  U.idxR (List.map encL at_) (rdI (rowAt (List.map encM l) i) 0)
                                    (rdI (rowAt (List.map encM l) i) 1) ∧
                                U.idxR (List.map encL at_) (rdI (rowAt (List.map encM l) i) 0)
                                      (rdI (rowAt (List.map encM l) i) 1) <
                                    (↑n : Int) ∧
                                  0 +
                                      Int.toNat
                                        (U.idxR (List.map encL at_) (rdI (rowAt (List.map encM l) i) 0)
                                          (rdI (rowAt (List.map encM l) i) 1)) <
                                    List.length o) ∧
                              Option.map List.length
                                    o[0 +
                                        Int.toNat
                                          (U.idxR (List.map encL at_) (rdI (rowAt (List.map encM l) i) 0)
                                            (rdI (rowAt (List.map encM l) i) 1))]? =
                                  some 1 ∧
                                LoopTo Try.prog H (H 16) 0 (loopOf Try.prog 16 9)
                                  (mkS 118
                                    [(0, AV.sl (List.map encM l)), (1, AV.sl (List.map encL at_)), (7, AV.os 0 0 n),
                                      (9, AV.os 1 0 k1), (10, AV.os 2 0 k2),
                                      (11, goI (IntKind.wrap IntKind.i64 ((↑i : Int) + 1)))]
                                    [Row.arr 1
                                        (List.set o
                                          (0 +
                                            Int.toNat
                                              (U.idxR (List.map encL at_) (rdI (rowAt (List.map encM l) i) 0)
                                                (rdI (rowAt (List.map encM l) i) 1)))
                                          [goI
                                              (rdI
                                                (rowAt ws
                                                  (0 +
                                                    Int.toNat
                                                      (U.idxR (List.take k1 (List.drop 0 ms))
                                                        (rdI (rowAt (List.map encM l) i) 2)
                                                        (rdI (rowAt (List.map encM l) i) 3))))
                                                0)]),
                                      Row.arr 2 ms, Row.arr 1 ws])
                                  r)
                            ((0 ≤ (↑i : Int) ∧
                                (List.map encM l)[i]? =
                                  some
                                    [goI (rdI (rowAt (List.map encM l) i) 0), goI (rdI (rowAt (List.map encM l) i) 1),
                                      goI (rdI (rowAt (List.map encM l) i) 2),
                                      goI (rdI (rowAt (List.map encM l) i) 3)]) ∧
                              Wf Try.prog H 31
                                    [AV.sl (List.take k1 (List.drop 0 ms)),
                                      AV.agg
                                        [goI (rdI (rowAt (List.map encM l) i) 0),
                                          goI (rdI (rowAt (List.map encM l) i) 1)]]
                                    [] =
                                  some
                                    (goI
                                        (U.idxR (List.take k1 (List.drop 0 ms)) (rdI (rowAt (List.map encM l) i) 0)
                                          (rdI (rowAt (List.map encM l) i) 1)),
                                      [], []) ∧
                                TB
                                  (decide
                                    (U.idxR (List.take k1 (List.drop 0 ms)) (rdI (rowAt (List.map encM l) i) 0)
                                        (rdI (rowAt (List.map encM l) i) 1) ≥
                                      0))
                                  ((0 ≤ (↑i : Int) ∧
                                      (List.map encM l)[i]? =
                                        some
                                          [goI (rdI (rowAt (List.map encM l) i) 0),
                                            goI (rdI (rowAt (List.map encM l) i) 1),
                                            goI (rdI (rowAt (List.map encM l) i) 2),
                                            goI (rdI (rowAt (List.map encM l) i) 3)]) ∧
                                    Wf Try.prog H 31
                                          [AV.sl (List.take k1 (List.drop 0 ms)),
                                            AV.agg
                                              [goI (rdI (rowAt (List.map encM l) i) 0),
                                                goI (rdI (rowAt (List.map encM l) i) 1)]]
                                          [] =
                                        some
                                          (goI
                                              (U.idxR (List.take k1 (List.drop 0 ms))
                                                (rdI (rowAt (List.map encM l) i) 0)
                                                (rdI (rowAt (List.map encM l) i) 1)),
                                            [], []) ∧
                                      (0 ≤
                                            U.idxR (List.take k1 (List.drop 0 ms)) (rdI (rowAt (List.map encM l) i) 0)
                                              (rdI (rowAt (List.map encM l) i) 1) ∧
                                          U.idxR (List.take k1 (List.drop 0 ms)) (rdI (rowAt (List.map encM l) i) 0)
                                                (rdI (rowAt (List.map encM l) i) 1) <
                                              (↑k2 : Int) ∧
                                            0 +
                                                Int.toNat
                                                  (U.idxR (List.take k1 (List.drop 0 ms))
                                                    (rdI (rowAt (List.map encM l) i) 0)
                                                    (rdI (rowAt (List.map encM l) i) 1)) <
                                              List.length ws) ∧
                                        Option.map List.length
                                              ws[0 +
                                                  Int.toNat
                                                    (U.idxR (List.take k1 (List.drop 0 ms))
                                                      (rdI (rowAt (List.map encM l) i) 0)
                                                      (rdI (rowAt (List.map encM l) i) 1))]? =
                                            some 1 ∧
                                          LoopTo Try.prog H (H 16) 0 (loopOf Try.prog 16 9)
                                            (mkS 118
                                              [(0, AV.sl (List.map encM l)), (1, AV.sl (List.map encL at_)),
                                                (7, AV.os 0 0 n), (9, AV.os 1 0 k1), (10, AV.os 2 0 k2),
                                                (11, goI (IntKind.wrap IntKind.i64 ((↑i : Int) + 1)))]
                                              [Row.arr 1 o, Row.arr 2 ms,
                                                Row.arr 1
                                                  (List.set ws
                                                    (0 +
                                                      Int.toNat
                                                        (U.idxR (List.take k1 (List.drop 0 ms))
                                                          (rdI (rowAt (List.map encM l) i) 0)
                                                          (rdI (rowAt (List.map encM l) i) 1)))
                                                    [goI
                                                        (rdI
                                                          (rowAt ws
                                                            (0 +
                                                              Int.toNat
                                                                (U.idxR (List.take k1 (List.drop 0 ms))
                                                                  (rdI (rowAt (List.map encM l) i) 2)
                                                                  (rdI (rowAt (List.map encM l) i) 3))))
                                                          0)])])
                                            r)
                                  ((0 ≤ (↑i : Int) ∧
                                      (List.map encM l)[i]? =
                                        some
                                          [goI (rdI (rowAt (List.map encM l) i) 0),
                                            goI (rdI (rowAt (List.map encM l) i) 1),
                                            goI (rdI (rowAt (List.map encM l) i) 2),
                                            goI (rdI (rowAt (List.map encM l) i) 3)]) ∧
                                    true = true ∧
                                      (k1 = List.length ms ∧ k1 + 1 ≤ 1000000) ∧
                                        true = true ∧
                                          (k2 = List.length ws ∧ k2 + 1 ≤ 1000000) ∧
                                            LoopTo Try.prog H (H 16) 0 (loopOf Try.prog 16 9)
                                              (mkS 118
                                                [(0, AV.sl (List.map encM l)), (1, AV.sl (List.map encL at_)),
                                                  (7, AV.os 0 0 n), (9, AV.os 1 0 (k1 + 1)), (10, AV.os 2 0 (k2 + 1)),
                                                  (11, goI (IntKind.wrap IntKind.i64 ((↑i : Int) + 1)))]
                                                [Row.arr 1 o,
                                                  Row.arr 2
                                                    (ms ++
                                                      [[goI (rdI (rowAt (List.map encM l) i) 0),
                                                          goI (rdI (rowAt (List.map encM l) i) 1)]]),
                                                  Row.arr 1
                                                    (ws ++
                                                      [[goI
                                                            (rdI
                                                              (rowAt ws
                                                                (0 +
                                                                  Int.toNat
                                                                    (U.idxR (List.take k1 (List.drop 0 ms))
                                                                      (rdI (rowAt (List.map encM l) i) 2)
                                                                      (rdI (rowAt (List.map encM l) i) 3))))
                                                              0)]])])
                                              r)))
              ((0 ≤ (↑i : Int) ∧
                  (List.map encM l)[i]? =
                    some
                      [goI (rdI (rowAt (List.map encM l) i) 0), goI (rdI (rowAt (List.map encM l) i) 1),
                        goI (rdI (rowAt (List.map encM l) i) 2), goI (rdI (rowAt (List.map encM l) i) 3)]) ∧
                Wf Try.prog H 31
                      [AV.sl (List.map encL at_),
                        AV.agg [goI (rdI (rowAt (List.map encM l) i) 0), goI (rdI (rowAt (List.map encM l) i) 1)]]
                      [] =
                    some
                      (goI
                          (U.idxR (List.map encL at_) (rdI (rowAt (List.map encM l) i) 0)
                            (rdI (rowAt (List.map encM l) i) 1)),
                        [], []) ∧
                  TB
                    (decide
                      (U.idxR (List.map encL at_) (rdI (rowAt (List.map encM l) i) 0)
                          (rdI (rowAt (List.map encM l) i) 1) ≥
                        0))
                    ((0 ≤
                          U.idxR (List.map encL at_) (rdI (rowAt (List.map encM l) i) 0)
                            (rdI (rowAt (List.map encM l) i) 1) ∧
                        U.idxR (List.map encL at_) (rdI (rowAt (List.map encM l) i) 0)
                              (rdI (rowAt (List.map encM l) i) 1) <
                            (↑n : Int) ∧
                          0 +
                              Int.toNat
                                (U.idxR (List.map encL at_) (rdI (rowAt (List.map encM l) i) 0)
                                  (rdI (rowAt (List.map encM l) i) 1)) <
                            List.length o) ∧
                      Option.map List.length
                            o[0 +
                                Int.toNat
                                  (U.idxR (List.map encL at_) (rdI (rowAt (List.map encM l) i) 0)
                                    (rdI (rowAt (List.map encM l) i) 1))]? =
                          some 1 ∧
                        LoopTo Try.prog H (H 16) 0 (loopOf Try.prog 16 9)
                          (mkS 118
                            [(0, AV.sl (List.map encM l)), (1, AV.sl (List.map encL at_)), (7, AV.os 0 0 n),
                              (9, AV.os 1 0 k1), (10, AV.os 2 0 k2),
                              (11, goI (IntKind.wrap IntKind.i64 ((↑i : Int) + 1)))]
                            [Row.arr 1
                                (List.set o
                                  (0 +
                                    Int.toNat
                                      (U.idxR (List.map encL at_) (rdI (rowAt (List.map encM l) i) 0)
                                        (rdI (rowAt (List.map encM l) i) 1)))
                                  [goI 0]),
                              Row.arr 2 ms, Row.arr 1 ws])
                          r)
                    ((0 ≤ (↑i : Int) ∧
                        (List.map encM l)[i]? =
                          some
                            [goI (rdI (rowAt (List.map encM l) i) 0), goI (rdI (rowAt (List.map encM l) i) 1),
                              goI (rdI (rowAt (List.map encM l) i) 2), goI (rdI (rowAt (List.map encM l) i) 3)]) ∧
                      Wf Try.prog H 31
                            [AV.sl (List.take k1 (List.drop 0 ms)),
                              AV.agg [goI (rdI (rowAt (List.map encM l) i) 0), goI (rdI (rowAt (List.map encM l) i) 1)]]
                            [] =
                          some
                            (goI
                                (U.idxR (List.take k1 (List.drop 0 ms)) (rdI (rowAt (List.map encM l) i) 0)
                                  (rdI (rowAt (List.map encM l) i) 1)),
                              [], []) ∧
                        TB
                          (decide
                            (U.idxR (List.take k1 (List.drop 0 ms)) (rdI (rowAt (List.map encM l) i) 0)
                                (rdI (rowAt (List.map encM l) i) 1) ≥
                              0))
                          ((0 ≤ (↑i : Int) ∧
                              (List.map encM l)[i]? =
                                some
                                  [goI (rdI (rowAt (List.map encM l) i) 0), goI (rdI (rowAt (List.map encM l) i) 1),
                                    goI (rdI (rowAt (List.map encM l) i) 2), goI (rdI (rowAt (List.map encM l) i) 3)]) ∧
                            Wf Try.prog H 31
                                  [AV.sl (List.take k1 (List.drop 0 ms)),
                                    AV.agg
                                      [goI (rdI (rowAt (List.map encM l) i) 0),
                                        goI (rdI (rowAt (List.map encM l) i) 1)]]
                                  [] =
                                some
                                  (goI
                                      (U.idxR (List.take k1 (List.drop 0 ms)) (rdI (rowAt (List.map encM l) i) 0)
                                        (rdI (rowAt (List.map encM l) i) 1)),
                                    [], []) ∧
                              (0 ≤
                                    U.idxR (List.take k1 (List.drop 0 ms)) (rdI (rowAt (List.map encM l) i) 0)
                                      (rdI (rowAt (List.map encM l) i) 1) ∧
                                  U.idxR (List.take k1 (List.drop 0 ms)) (rdI (rowAt (List.map encM l) i) 0)
                                        (rdI (rowAt (List.map encM l) i) 1) <
                                      (↑k2 : Int) ∧
                                    0 +
                                        Int.toNat
                                          (U.idxR (List.take k1 (List.drop 0 ms)) (rdI (rowAt (List.map encM l) i) 0)
                                            (rdI (rowAt (List.map encM l) i) 1)) <
                                      List.length ws) ∧
                                Option.map List.length
                                      ws[0 +
                                          Int.toNat
                                            (U.idxR (List.take k1 (List.drop 0 ms)) (rdI (rowAt (List.map encM l) i) 0)
                                              (rdI (rowAt (List.map encM l) i) 1))]? =
                                    some 1 ∧
                                  LoopTo Try.prog H (H 16) 0 (loopOf Try.prog 16 9)
                                    (mkS 118
                                      [(0, AV.sl (List.map encM l)), (1, AV.sl (List.map encL at_)), (7, AV.os 0 0 n),
                                        (9, AV.os 1 0 k1), (10, AV.os 2 0 k2),
                                        (11, goI (IntKind.wrap IntKind.i64 ((↑i : Int) + 1)))]
                                      [Row.arr 1 o, Row.arr 2 ms,
                                        Row.arr 1
                                          (List.set ws
                                            (0 +
                                              Int.toNat
                                                (U.idxR (List.take k1 (List.drop 0 ms))
                                                  (rdI (rowAt (List.map encM l) i) 0)
                                                  (rdI (rowAt (List.map encM l) i) 1)))
                                            [goI 0])])
                                    r)
                          ((0 ≤ (↑i : Int) ∧
                              (List.map encM l)[i]? =
                                some
                                  [goI (rdI (rowAt (List.map encM l) i) 0), goI (rdI (rowAt (List.map encM l) i) 1),
                                    goI (rdI (rowAt (List.map encM l) i) 2), goI (rdI (rowAt (List.map encM l) i) 3)]) ∧
                            true = true ∧
                              (k1 = List.length ms ∧ k1 + 1 ≤ 1000000) ∧
                                true = true ∧
                                  (k2 = List.length ws ∧ k2 + 1 ≤ 1000000) ∧
                                    LoopTo Try.prog H (H 16) 0 (loopOf Try.prog 16 9)
                                      (mkS 118
                                        [(0, AV.sl (List.map encM l)), (1, AV.sl (List.map encL at_)), (7, AV.os 0 0 n),
                                          (9, AV.os 1 0 (k1 + 1)), (10, AV.os 2 0 (k2 + 1)),
                                          (11, goI (IntKind.wrap IntKind.i64 ((↑i : Int) + 1)))]
                                        [Row.arr 1 o,
                                          Row.arr 2
                                            (ms ++
                                              [[goI (rdI (rowAt (List.map encM l) i) 0),
                                                  goI (rdI (rowAt (List.map encM l) i) 1)]]),
                                          Row.arr 1 (ws ++ [[goI 0]])])
                                      r)))))
  ((Ex.exit 2, mkS 118 [(7, AV.os 0 0 n)] [Row.arr 1 o, Row.dead, Row.dead]) = r)) := by kernel_rfl
theorem idxR_map (M : List Loc) (a b : Int) : U.idxR (M.map encL) a b = U.idx M ⟨a, b⟩ := by
  unfold U.idxR U.idx
  rw [List.length_map]
  refine firstOf_congr _ _ (fun j _ hj => ?_)
  rw [rowL (by omega)]
  simp only [rdI, List.getD_cons_zero, List.getD_cons_succ, int_goI]
  rw [decide_eq_decide, Loc.eq_iff]
theorem idx_spec {at_ : List Loc} {x : Loc} (h : 0 ≤ U.idx at_ x) : ∃ w : Nat, U.idx at_ x = w ∧ w < at_.length ∧ U.lc at_ w = x := by
  obtain ⟨w, h1, _, h3, h4⟩ := firstOf_val _ _ _ h
  exact ⟨w, h1, by omega, of_decide_eq_true h4⟩
theorem idx_neg {at_ : List Loc} {x : Loc} (h : ¬ 0 ≤ U.idx at_ x) : U.idx at_ x = -1 := (firstOf_neg _ _ _).resolve_left h
theorem idx_app (M : List Loc) (t x : Loc) : U.idx (M ++ [t]) x = if 0 ≤ U.idx M x then U.idx M x else if x = t then (M.length : Int) else -1 := by
  unfold U.idx
  rw [List.length_append, List.length_singleton, firstOf_last]
  have e : U.firstOf (fun j => decide (U.lc (M ++ [t]) j = x)) M.length 0 = U.firstOf (fun j => decide (U.lc M j = x)) M.length 0 := by
    refine firstOf_congr _ _ (fun j _ hj => ?_)
    unfold U.lc
    rw [List.getD_eq_getElem?_getD, List.getElem?_append_left (by omega), ← List.getD_eq_getElem?_getD]
  have e2 : U.lc (M ++ [t]) (0 + M.length) = t := by unfold U.lc; simp
  rw [e, e2, Nat.zero_add]
  by_cases h : x = t
  · subst h; simp
  · have : ¬ t = x := fun q => h q.symm
    simp [h, this]
structure Rel (at_ : List Loc) (hs : List Int) (S : Loc → Int) (G : Nat → Int) (M : List Loc) (W : List Int) : Prop where
  len : W.length = M.length
  val : ∀ x, S x = if 0 ≤ U.idx at_ x then G (U.idx at_ x).toNat else if 0 ≤ U.idx M x then U.nt W (U.idx M x).toNat else 0
  rest : ∀ j, j < at_.length → U.idx at_ (U.lc at_ j) ≠ j → G j = U.nt hs j
theorem Rel.atTo {at_ : List Loc} {hs : List Int} {S : Loc → Int} {G : Nat → Int} {M : List Loc} {W : List Int} (h : Rel at_ hs S G M W) {m : Mv} {w : Nat} (hw : U.idx at_ m.to = w) (hl : U.lc at_ w = m.to) : Rel at_ hs (U.mv1 S m) (fun j => if j = w then S m.fr else G j) M W where
  len := h.len
  val := fun x => by
    unfold U.mv1
    by_cases e : x = m.to
    · rw [if_pos e, e, hw, if_pos (by omega), Int.toNat_natCast, if_pos rfl]
    · rw [if_neg e, h.val x]
      by_cases h0 : 0 ≤ U.idx at_ x
      · obtain ⟨v, hv, _, hv2⟩ := idx_spec h0
        rw [if_pos h0, if_pos h0, hv, Int.toNat_natCast, if_neg (fun q => e (by rw [← hv2, q, hl]))]
      · rw [if_neg h0, if_neg h0]
  rest := fun j hj hne => by
    by_cases e : j = w
    · exfalso; subst e; exact hne (by rw [hl]; exact hw)
    · simp only [if_neg e]; exact h.rest j hj hne
theorem nt_set (W : List Int) (i j : Nat) (v : Int) (hi : i < W.length) : U.nt (W.set i v) j = if j = i then v else U.nt W j := by
  unfold U.nt
  rw [List.getD_eq_getElem?_getD, List.getElem?_set, List.getD_eq_getElem?_getD]
  by_cases h : i = j
  · subst h; simp [hi]
  · rw [if_neg h, if_neg (fun q => h q.symm)]
theorem Rel.moreTo {at_ : List Loc} {hs : List Int} {S : Loc → Int} {G : Nat → Int} {M : List Loc} {W : List Int} (h : Rel at_ hs S G M W) {m : Mv} {w : Nat} (hn : ¬ 0 ≤ U.idx at_ m.to) (hw : U.idx M m.to = w) (hwl : w < M.length) (hl : U.lc M w = m.to) : Rel at_ hs (U.mv1 S m) G M (W.set w (S m.fr)) where
  len := by rw [List.length_set]; exact h.len
  val := fun x => by
    unfold U.mv1
    by_cases e : x = m.to
    · rw [if_pos e, e, if_neg hn, hw, if_pos (by omega), Int.toNat_natCast, nt_set _ _ _ _ (by rw [h.len]; exact hwl), if_pos rfl]
    · rw [if_neg e, h.val x]
      by_cases h0 : 0 ≤ U.idx at_ x
      · rw [if_pos h0, if_pos h0]
      · rw [if_neg h0, if_neg h0]
        by_cases h1 : 0 ≤ U.idx M x
        · obtain ⟨v, hv, _, hv2⟩ := idx_spec h1
          rw [if_pos h1, if_pos h1, hv, Int.toNat_natCast, nt_set _ _ _ _ (by rw [h.len]; exact hwl), if_neg (fun q => e (by rw [← hv2, q, hl]))]
        · rw [if_neg h1, if_neg h1]
  rest := h.rest
theorem Rel.newTo {at_ : List Loc} {hs : List Int} {S : Loc → Int} {G : Nat → Int} {M : List Loc} {W : List Int} (h : Rel at_ hs S G M W) {m : Mv} (hn : ¬ 0 ≤ U.idx at_ m.to) (hn2 : ¬ 0 ≤ U.idx M m.to) : Rel at_ hs (U.mv1 S m) G (M ++ [m.to]) (W ++ [S m.fr]) where
  len := by simp [h.len]
  val := fun x => by
    unfold U.mv1
    rw [idx_app]
    by_cases e : x = m.to
    · rw [if_pos e, e, if_neg hn, if_neg hn2, if_pos rfl, if_pos (by omega), Int.toNat_natCast]
      unfold U.nt
      rw [← h.len]
      simp
    · rw [if_neg e, h.val x]
      by_cases h0 : 0 ≤ U.idx at_ x
      · rw [if_pos h0, if_pos h0]
      · rw [if_neg h0, if_neg h0]
        by_cases h1 : 0 ≤ U.idx M x
        · obtain ⟨v, hv, hv1, hv2⟩ := idx_spec h1
          simp only [h1, if_true]
          rw [hv, Int.toNat_natCast]
          unfold U.nt
          rw [List.getD_eq_getElem?_getD, List.getD_eq_getElem?_getD, List.getElem?_append_left (by rw [h.len]; exact hv1)]
        · simp [h1, e]
  rest := h.rest
theorem cutAt_out (g : Nat → Int) {n i : Nat} (h : i < n) : cutAt 1 0 (outAt g n)[i]? = some [goI (g i)] := by rw [outAt_get g h]; rfl
theorem set_map (W : List Int) (i : Nat) (v : Int) : (W.map encI).set i [goI v] = (W.set i v).map encI := by rw [List.map_set]; rfl
set_option maxHeartbeats 1000000 in
theorem loop16_9 (l : List Mv) (at_ : List Loc) (hs : List Int) (hl : l.length < 100000) (hl2 : at_.length < 1000000) : ∀ (d i : Nat) (S : Loc → Int) (G : Nat → Int) (M : List Loc) (W : List Int), i + d = l.length → M.length ≤ i → Rel at_ hs S G M W →
    ∃ G' M' W', Rel at_ hs ((l.drop i).foldl U.mv1 S) G' M' W' ∧
    LoopTo Try.prog H (H 16) 0 (loopOf Try.prog 16 9) (mkS 118 [(0, .sl (l.map encM)), (1, .sl (at_.map encL)), (7, .os 0 0 at_.length), (9, .os 1 0 M.length), (10, .os 2 0 W.length), (11, goI i)] [.arr 1 (outAt G at_.length), .arr 2 (M.map encL), .arr 1 (W.map encI)])
      (.exit 2, mkS 118 [(7, .os 0 0 at_.length)] [.arr 1 (outAt G' at_.length), .dead, .dead])
  | 0, i, S, G, M, W, hd, hM, hR => by
    refine ⟨G, M, W, by rw [List.drop_eq_nil_of_le (by omega)]; exact hR, ?_⟩
    refine turnK (t16_9 l at_ _ _ _ i _ _ _ _) ?_
    rw [List.length_map, decide_eq_false (by omega)]
    exact rfl
  | d + 1, i, S, G, M, W, hd, hM, hR => by
    have hi : i < l.length := by omega
    have hMl : M.length < 100000 := by omega
    rw [drop_cons l hi, List.foldl_cons]
    have hfr : (l.getD i default).fr = U.fr l i := rfl
    have hto : (l.getD i default).to = U.to l i := rfl
    have a31 := fun x => wf31 at_ x hl2
    have m31 := fun x => wf31 M x (by omega)
    have hT : List.take M.length (List.drop 0 (M.map encL)) = M.map encL := by rw [List.drop_zero]; exact List.take_of_length_le (by simp)
    have hlen := hR.len
    generalize hm : l.getD i default = m at hfr hto
    -- what comes behind, for each of the three ways to store
    have stp : ∀ (G1 : Nat → Int) (M1 : List Loc) (W1 : List Int), M1.length ≤ i + 1 → Rel at_ hs (U.mv1 S m) G1 M1 W1 → ∃ G' M' W', Rel at_ hs ((l.drop (i + 1)).foldl U.mv1 (U.mv1 S m)) G' M' W' ∧ LoopTo Try.prog H (H 16) 0 (loopOf Try.prog 16 9) (mkS 118 [(0, .sl (l.map encM)), (1, .sl (at_.map encL)), (7, .os 0 0 at_.length), (9, .os 1 0 M1.length), (10, .os 2 0 W1.length), (11, goI ((i + 1 : Nat) : Int))] [.arr 1 (outAt G1 at_.length), .arr 2 (M1.map encL), .arr 1 (W1.map encI)]) (.exit 2, mkS 118 [(7, .os 0 0 at_.length)] [.arr 1 (outAt G' at_.length), .dead, .dead]) := fun G1 M1 W1 h1 h2 => loop16_9 l at_ hs hl hl2 d (i + 1) _ G1 M1 W1 (by omega) h1 h2
    have goal : ∃ G' M' W', Rel at_ hs ((l.drop (i + 1)).foldl U.mv1 (U.mv1 S m)) G' M' W' ∧ ((∃ w, U.idx at_ m.to = (w : Nat) ∧ w < at_.length ∧ LoopTo Try.prog H (H 16) 0 (loopOf Try.prog 16 9) (mkS 118 [(0, .sl (l.map encM)), (1, .sl (at_.map encL)), (7, .os 0 0 at_.length), (9, .os 1 0 M.length), (10, .os 2 0 W.length), (11, goI ((i + 1 : Nat) : Int))] [.arr 1 ((outAt G at_.length).set w [goI (S m.fr)]), .arr 2 (M.map encL), .arr 1 (W.map encI)]) (.exit 2, mkS 118 [(7, .os 0 0 at_.length)] [.arr 1 (outAt G' at_.length), .dead, .dead])) ∨
      (U.idx at_ m.to = -1 ∧ ∃ w, U.idx M m.to = (w : Nat) ∧ w < M.length ∧ LoopTo Try.prog H (H 16) 0 (loopOf Try.prog 16 9) (mkS 118 [(0, .sl (l.map encM)), (1, .sl (at_.map encL)), (7, .os 0 0 at_.length), (9, .os 1 0 M.length), (10, .os 2 0 W.length), (11, goI ((i + 1 : Nat) : Int))] [.arr 1 (outAt G at_.length), .arr 2 (M.map encL), .arr 1 ((W.map encI).set w [goI (S m.fr)])]) (.exit 2, mkS 118 [(7, .os 0 0 at_.length)] [.arr 1 (outAt G' at_.length), .dead, .dead])) ∨
      (U.idx at_ m.to = -1 ∧ U.idx M m.to = -1 ∧ LoopTo Try.prog H (H 16) 0 (loopOf Try.prog 16 9) (mkS 118 [(0, .sl (l.map encM)), (1, .sl (at_.map encL)), (7, .os 0 0 at_.length), (9, .os 1 0 (M.length + 1)), (10, .os 2 0 (W.length + 1)), (11, goI ((i + 1 : Nat) : Int))] [.arr 1 (outAt G at_.length), .arr 2 (M.map encL ++ [[goI m.to.k, goI m.to.n]]), .arr 1 (W.map encI ++ [[goI (S m.fr)]])]) (.exit 2, mkS 118 [(7, .os 0 0 at_.length)] [.arr 1 (outAt G' at_.length), .dead, .dead]))) := by
      by_cases h0 : 0 ≤ U.idx at_ m.to
      · obtain ⟨w, hw, hwl, hw2⟩ := idx_spec h0
        obtain ⟨G', M', W', hR', hL'⟩ := stp _ M W (by omega) (hR.atTo hw hw2)
        refine ⟨G', M', W', hR', .inl ⟨w, hw, hwl, ?_⟩⟩
        rw [outAt_set]; exact hL'
      · by_cases h1 : 0 ≤ U.idx M m.to
        · obtain ⟨w, hw, hwl, hw2⟩ := idx_spec h1
          obtain ⟨G', M', W', hR', hL'⟩ := stp G M _ (by omega) (hR.moreTo h0 hw hwl hw2)
          refine ⟨G', M', W', hR', .inr (.inl ⟨idx_neg h0, w, hw, hwl, ?_⟩)⟩
          rw [set_map]
          rw [List.length_set] at hL'
          exact hL'
        · obtain ⟨G', M', W', hR', hL'⟩ := stp G _ _ (by simp; omega) (hR.newTo h0 h1)
          refine ⟨G', M', W', hR', .inr (.inr ⟨idx_neg h0, idx_neg h1, ?_⟩)⟩
          rw [List.length_append, List.length_append, List.map_append, List.map_append] at hL'
          exact hL'
    obtain ⟨G', M', W', hR', hL'⟩ := goal
    refine ⟨G', M', W', hR', ?_⟩
    refine turnK (t16_9 l at_ _ _ _ i _ _ _ _) ?_
    rw [List.length_map, decide_eq_true (by omega), wrapS hi (by omega), row13 hi, map13 hi, hT]
    simp only [rdI, List.getD_cons_zero, List.getD_cons_succ, int_goI, idxR_map, Nat.zero_add]
    have e1 : (⟨(U.fr l i).k, (U.fr l i).n⟩ : Loc) = m.fr := hfr.symm
    have e2 : (⟨(U.to l i).k, (U.to l i).n⟩ : Loc) = m.to := hto.symm
    rw [e1, e2, ← hfr, ← hto]
    have aF : Wf Try.prog H 31 [AV.sl (List.map encL at_), AV.agg [goI m.fr.k, goI m.fr.n]] [] = some (goI (U.idx at_ m.fr), [], []) := a31 m.fr
    have aT : Wf Try.prog H 31 [AV.sl (List.map encL at_), AV.agg [goI m.to.k, goI m.to.n]] [] = some (goI (U.idx at_ m.to), [], []) := a31 m.to
    have mF : Wf Try.prog H 31 [AV.sl (List.map encL M), AV.agg [goI m.fr.k, goI m.fr.n]] [] = some (goI (U.idx M m.fr), [], []) := m31 m.fr
    have mT : Wf Try.prog H 31 [AV.sl (List.map encL M), AV.agg [goI m.to.k, goI m.to.n]] [] = some (goI (U.idx M m.to), [], []) := m31 m.to
    have hv := hR.val m.fr
    clear stp hR'
    refine ⟨⟨by omega, by trivial⟩, aF, ?_⟩
    -- the value that is moved
    have three : (∃ w, U.idx at_ m.fr = (w : Nat) ∧ w < at_.length ∧ G w = S m.fr) ∨ (U.idx at_ m.fr = -1 ∧ ∃ w, U.idx M m.fr = (w : Nat) ∧ w < M.length ∧ U.nt W w = S m.fr) ∨ (U.idx at_ m.fr = -1 ∧ U.idx M m.fr = -1 ∧ S m.fr = 0) := by
      by_cases h0 : 0 ≤ U.idx at_ m.fr
      · obtain ⟨w, hw, hwl, _⟩ := idx_spec h0
        left
        refine ⟨w, hw, hwl, ?_⟩
        rw [hv, if_pos h0, hw, Int.toNat_natCast]
      · by_cases h1 : 0 ≤ U.idx M m.fr
        · obtain ⟨w, hw, hwl, _⟩ := idx_spec h1
          refine .inr (.inl ⟨idx_neg h0, w, hw, hwl, ?_⟩)
          rw [hv, if_neg h0, if_pos h1, hw, Int.toNat_natCast]
        · refine .inr (.inr ⟨idx_neg h0, idx_neg h1, ?_⟩)
          rw [hv, if_neg h0, if_neg h1]
    clear hv
    have geW : ∀ w : Nat, decide (((w : Nat) : Int) ≥ 0) = true := fun w => decide_eq_true (by omega)
    have geN : decide ((-1 : Int) ≥ 0) = false := rfl
    have sto1 : ∀ w, w < at_.length → (outAt G at_.length)[w]?.map List.length = some 1 := fun w h => by rw [outAt_get G h]; rfl
    have stoW : ∀ w, w < W.length → (W.map encI)[w]?.map List.length = some 1 := fun w h => by rw [getI h]; rfl
    have cutW : ∀ w, w < W.length → cutAt 1 0 (W.map encI)[w]? = some [goI (U.nt W w)] := fun w h => by rw [getI h]; rfl
    generalize S m.fr = s at three hL'
    rcases three with ⟨w, hw, hwl, hg⟩ | ⟨hn, w, hw, hwl, hg⟩ | ⟨hn, hn2, hg⟩
    · rw [hw, geW, Int.toNat_natCast, outAt_row G hwl]
      refine ⟨⟨by omega, by omega, by rw [outAt_len]; exact hwl⟩, cutAt_out G hwl, ⟨by omega, by trivial⟩, aT, ?_⟩
      simp only [List.getD_cons_zero, int_goI, hg]
      rcases hL' with ⟨v, hv, hvl, hL'⟩ | ⟨hv0, v, hv, hvl, hL'⟩ | ⟨hv0, hv, hL'⟩
      · rw [hv, geW, Int.toNat_natCast]
        exact ⟨⟨by omega, by omega, by rw [outAt_len]; exact hvl⟩, sto1 v hvl, hL'⟩
      · rw [hv0, geN, hv, geW, Int.toNat_natCast]
        rw [hv] at mT
        exact ⟨⟨by omega, by trivial⟩, mT, ⟨by omega, by trivial⟩, mT, ⟨by omega, by omega, by simp; omega⟩, stoW v (by omega), hL'⟩
      · rw [hv0, geN, hv, geN]
        rw [hv] at mT
        exact ⟨⟨by omega, by trivial⟩, mT, ⟨by omega, by trivial⟩, by trivial, ⟨by simp, by omega⟩, by trivial, ⟨by simp, by omega⟩, hL'⟩
    · rw [hn, geN, hw, geW, Int.toNat_natCast, rowI (show w < W.length by omega)]
      rw [hw] at mF
      refine ⟨⟨by omega, by trivial⟩, mF, ⟨by omega, by trivial⟩, mF, ⟨by omega, by omega, by simp; omega⟩, cutW w (by omega), ⟨by omega, by trivial⟩, aT, ?_⟩
      simp only [List.getD_cons_zero, int_goI, hg]
      rcases hL' with ⟨v, hv, hvl, hL'⟩ | ⟨hv0, v, hv, hvl, hL'⟩ | ⟨hv0, hv, hL'⟩
      · rw [hv, geW, Int.toNat_natCast]
        exact ⟨⟨by omega, by omega, by rw [outAt_len]; exact hvl⟩, sto1 v hvl, hL'⟩
      · rw [hv0, geN, hv, geW, Int.toNat_natCast]
        rw [hv] at mT
        exact ⟨⟨by omega, by trivial⟩, mT, ⟨by omega, by trivial⟩, mT, ⟨by omega, by omega, by simp; omega⟩, stoW v (by omega), hL'⟩
      · rw [hv0, geN, hv, geN]
        rw [hv] at mT
        exact ⟨⟨by omega, by trivial⟩, mT, ⟨by omega, by trivial⟩, by trivial, ⟨by simp, by omega⟩, by trivial, ⟨by simp, by omega⟩, hL'⟩
    · rw [hn, geN, hn2, geN]
      rw [hn2] at mF
      refine ⟨⟨by omega, by trivial⟩, mF, ⟨by omega, by trivial⟩, aT, ?_⟩
      rw [hg] at hL'
      rcases hL' with ⟨v, hv, hvl, hL'⟩ | ⟨hv0, v, hv, hvl, hL'⟩ | ⟨hv0, hv, hL'⟩
      · rw [hv, geW, Int.toNat_natCast]
        exact ⟨⟨by omega, by omega, by rw [outAt_len]; exact hvl⟩, sto1 v hvl, hL'⟩
      · rw [hv0, geN, hv, geW, Int.toNat_natCast]
        rw [hv] at mT
        exact ⟨⟨by omega, by trivial⟩, mT, ⟨by omega, by trivial⟩, mT, ⟨by omega, by omega, by simp; omega⟩, stoW v (by omega), hL'⟩
      · rw [hv0, geN, hv, geN]
        rw [hv] at mT
        exact ⟨⟨by omega, by trivial⟩, mT, ⟨by omega, by trivial⟩, by trivial, ⟨by simp, by omega⟩, by trivial, ⟨by simp, by omega⟩, hL'⟩
theorem loop16_3 (l : List Mv) (at_ : List Loc) (hs : List Int) (hl2 : at_.length < 1000000) : ∀ (d i : Nat), i + d = min at_.length hs.length →
    LoopTo Try.prog H (H 16) 0 (loopOf Try.prog 16 3) (mkS 118 [(0, .sl (l.map encM)), (1, .sl (at_.map encL)), (2, .sl (hs.map encI)), (7, .os 0 0 at_.length), (8, goI i)] [.arr 1 (outAt (fun j => if j < i then U.nt hs j else 0) at_.length), .dead, .dead])
      (.exit 0, mkS 118 [(0, .sl (l.map encM)), (1, .sl (at_.map encL)), (7, .os 0 0 at_.length)] [.arr 1 (outAt (U.nt hs) at_.length), .dead, .dead])
  | 0, i, hd => by
    refine turnK (t16_3 l at_ hs _ i _ _) ?_
    have e : outAt (fun j => if j < i then U.nt hs j else 0) at_.length = outAt (U.nt hs) at_.length := outAt_congr (fun j hj => by
      by_cases h : j < i
      · rw [if_pos h]
      · rw [if_neg h]; unfold U.nt; rw [List.getD_eq_getElem?_getD, List.getElem?_eq_none (by omega)]; rfl)
    rw [List.length_map, List.length_map, e]
    by_cases h : i < at_.length
    · rw [decide_eq_true (by omega), decide_eq_false (by omega)]; exact rfl
    · rw [decide_eq_false (by omega)]; exact rfl
  | d + 1, i, hd => by
    have hi : i < at_.length := by omega
    have hi2 : i < hs.length := by omega
    have ih := loop16_3 l at_ hs hl2 d (i + 1) (by omega)
    refine turnK (t16_3 l at_ hs _ i _ _) ?_
    rw [List.length_map, List.length_map, decide_eq_true (by omega), decide_eq_true (by omega), wrapS hi hl2, rowI hi2, getI hi2, Nat.zero_add, outAt_get _ hi, outAt_set]
    simp only [rdI, List.getD_cons_zero, int_goI]
    refine ⟨⟨by omega, by trivial⟩, ⟨by omega, by omega, by rw [outAt_len]; exact hi⟩, by trivial, ?_⟩
    have e : outAt (fun j => if j = i then U.nt hs i else if j < i then U.nt hs j else 0) at_.length = outAt (fun j => if j < i + 1 then U.nt hs j else 0) at_.length := outAt_congr (fun j hj => by
      by_cases h : j = i
      · subst h; simp
      · by_cases h2 : j < i
        · rw [if_neg h, if_pos h2, if_pos (by omega)]
        · rw [if_neg h, if_neg h2, if_neg (by omega)])
    rw [e]
    exact ih
theorem wf16 (l : List Mv) (at_ : List Loc) (hs : List Int) (hl : l.length < 100000) (hl2 : at_.length < 1000000) : Wf Try.prog H 16 [.sl (l.map encM), .sl (at_.map encL), .sl (hs.map encI)] [] = some (.os 0 0 at_.length, [.arr 1 ((U.play l at_ hs).map encI)], []) := by
  have h3 := loop16_3 l at_ hs hl2 (min at_.length hs.length) 0 (by omega)
  have hR0 : Rel at_ hs (U.ini at_ hs) (U.nt hs) [] [] := ⟨rfl, fun x => by
    have : U.idx ([] : List Loc) x = -1 := rfl
    rw [this, if_neg (by decide : ¬ (0 : Int) ≤ -1)]
    rfl, fun j _ _ => rfl⟩
  obtain ⟨G', M', W', hR, h9⟩ := loop16_9 l at_ hs hl hl2 l.length 0 _ _ [] [] (by omega) (Nat.le_refl _) hR0
  rw [List.drop_zero] at hR
  have ep : (U.play l at_ hs).map encI = outAt G' at_.length := by
    unfold U.play
    rw [List.map_map]
    refine List.map_congr_left (fun j hj => ?_)
    have hj := List.mem_range.1 hj
    show [goI (U.outG (U.fin l at_ hs) at_ hs at_.length j)] = [goI (G' j)]
    congr 2
    unfold U.outG
    by_cases h : U.idx at_ (U.lc at_ j) = j
    · rw [if_pos ⟨hj, h⟩]
      have := hR.val (U.lc at_ j)
      rw [h, if_pos (by omega), Int.toNat_natCast] at this
      exact this
    · rw [if_neg (fun q => h q.2)]
      exact (hR.rest j hj h).symm
  have e0 : List.replicate at_.length [goI 0] = outAt (fun j => if j < 0 then U.nt hs j else 0) at_.length := by
    unfold outAt
    apply List.ext_getElem?
    intro j
    by_cases hj : j < at_.length
    · simp [hj]
    · simp [hj]
  rw [ep]
  refine runK (t16 l at_ hs at_.length (outAt (U.nt hs) at_.length) (outAt G' at_.length) _) ?_
  rw [List.length_map, List.length_replicate, e0]
  exact ⟨⟨by omega, by omega, by omega⟩, h3, h9, by trivial⟩
end Go.Proofs.Ythbkemkjkpaoaab.E
