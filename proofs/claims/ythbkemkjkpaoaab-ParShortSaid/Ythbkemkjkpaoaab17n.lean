/- Functions, by what the evaluator asks; the theorems t.. were printed by show.txt, a program of this session. -/
import Derived.Test.Ythbkemkjkpaoaab17m
set_option linter.unusedVariables false
set_option linter.unusedSimpArgs false
set_option maxRecDepth 100000
namespace Go.Proofs.Ythbkemkjkpaoaab.E
open Go
def F10 (rg : Bool) (k : Nat) (zs : List (List AV)) : CallF := fun f args sto => match f, args with
 | 13, _ => some (goB rg, sto, [])
 | 17, [.agg [.v (.int .i64 a), .v (.int .i64 b)]] => some (goB (U.may a b), [], [])
 | 29, _ => some (.os 0 0 k, [.arr 4 zs], [])
 | _, _ => none
def L10 (x : Loc) (tb : Bool) (n : Nat) (xs os1 : List (List AV)) : Nat → St → LT := fun id st => match id with
 | 5 => .by tb (.is .ret (mkS 142 [(4, .nil), (5, goI 1)] [.dead, .dead, .dead, .dead])) (.is (.exit 0) (mkS 142 [(3, .pt 0 0 0), (6, .os 2 0 n), (7, .os 3 0 0)] [.box (encL x), .dead, .arr 4 xs, .arr 4 []]))
 | 11 => .is (.exit 2) (mkS 142 [(7, .os 3 0 os1.length)] [.dead, .dead, .dead, .arr 4 os1])
 | _ => .no
def L1011 (x y : Loc) (n : Nat) (v : Int) (xs os0 zs os2 : List (List AV)) : Nat → St → LT := fun id st => match id with
 | 14 => .is (.exit 4) (mkS 142 [(3, .pt 0 0 0), (6, .os 2 0 n), (7, .os 3 0 os0.length), (9, goI v)] [.box (encL x), .dead, .arr 4 xs, .arr 4 os0])
 | 29 => .is (.exit 8) (mkS 142 [(3, .pt 0 0 0), (6, .os 2 0 n), (7, .os 3 0 os2.length)] [.box (encL x), .box (encL y), .arr 4 zs, .arr 4 os2])
 | _ => .no
def L1014 (x : Loc) (n : Nat) (v : Int) (j : Int) (b : Bool) (xs os0 : List (List AV)) : Nat → St → LT := fun id st => .is (.exit 6) (mkS 142 [(3, .pt 0 0 0), (6, .os 2 0 n), (7, .os 3 0 os0.length), (9, goI v), (10, goI j), (11, goB b)] [.box (encL x), .dead, .arr 4 xs, .arr 4 os0])

theorem t10 (l : List Mv) (x : Loc) (rg : Bool) (tb : Bool) (n : Nat) (xs : List (List AV)) (os1 : List (List AV)) (r : AV × List Row × List Nat) : (runT Try.prog H (fun f args sto => CT.of (F10 rg 0 [] f args sto)) (L10 x tb n xs os1) false 10
  [AV.sl (List.map encM l), AV.agg (encL x)] [] fun q => q = r) = (Wf Try.prog H 13 [AV.sl (List.map encM l)] [] = some (goB rg, [], []) ∧
  TB (!rg) ((AV.tup [AV.sl [], goI 1], [], []) = r)
    (Wf Try.prog H 17 [AV.agg [goI x.1, goI x.2]] [] = some (goB (U.may x.1 x.2), [], []) ∧
      TB (!U.may x.1 x.2) ((AV.tup [AV.sl [], goI 1], [], []) = r)
        (TB tb
          (LoopTo Try.prog H (H 10) 0 (loopOf Try.prog 10 5)
              (mkS 142 [(0, AV.sl (List.map encM l)), (3, AV.pt 0 0 0), (6, AV.os 2 0 0), (7, AV.os 3 0 0), (8, goI 0)]
                [Row.box [goI x.1, goI x.2], Row.dead, Row.arr 4 [], Row.arr 4 []])
              (Ex.ret, mkS 142 [(4, AV.nil), (5, goI 1)] [Row.dead, Row.dead, Row.dead, Row.dead]) ∧
            (AV.tup [AV.sl [], goI 1], [], []) = r)
          (LoopTo Try.prog H (H 10) 0 (loopOf Try.prog 10 5)
              (mkS 142 [(0, AV.sl (List.map encM l)), (3, AV.pt 0 0 0), (6, AV.os 2 0 0), (7, AV.os 3 0 0), (8, goI 0)]
                [Row.box [goI x.1, goI x.2], Row.dead, Row.arr 4 [], Row.arr 4 []])
              (Ex.exit 0,
                mkS 142 [(3, AV.pt 0 0 0), (6, AV.os 2 0 n), (7, AV.os 3 0 0)]
                  [Row.box [goI x.1, goI x.2], Row.dead, Row.arr 4 xs, Row.arr 4 []]) ∧
            LoopTo Try.prog H (H 10) 0 (loopOf Try.prog 10 11)
                (mkS 142 [(3, AV.pt 0 0 0), (6, AV.os 2 0 n), (7, AV.os 3 0 0)]
                  [Row.box [goI x.1, goI x.2], Row.dead, Row.arr 4 xs, Row.arr 4 []])
                (Ex.exit 2, mkS 142 [(7, AV.os 3 0 (List.length os1))] [Row.dead, Row.dead, Row.dead, Row.arr 4 os1]) ∧
              (AV.tup [AV.os 0 0 (List.length os1), goI 0], [Row.arr 4 os1], []) = r)))) := by kernel_rfl
theorem t10_5 (l : List Mv) (x : Loc) (i : Nat) (n : Nat) (os0 : List (List AV)) (r : Ex × St) : (turnT Try.prog H (fun f args sto => CT.of (F0 f args sto)) L0 false (H 10) 0 (loopOf Try.prog 10 5)
  (mkS 142
    [(0, AV.sl (List.map encM l)), (3, AV.pt 0 0 0), (6, AV.os 2 0 (List.length os0)), (7, AV.os 3 0 0),
      (8, goI (↑i : Int))]
    [Row.box (encL x), Row.dead, Row.arr 4 os0, Row.arr 4 []])
  r) = (TB (decide ((↑i : Int) < (↑(List.length (List.map encM l)) : Int)))
  ((0 ≤ (↑i : Int) ∧
      (List.map encM l)[i]? =
        some
          [goI (rdI (rowAt (List.map encM l) i) 0), goI (rdI (rowAt (List.map encM l) i) 1),
            goI (rdI (rowAt (List.map encM l) i) 2), goI (rdI (rowAt (List.map encM l) i) 3)]) ∧
    TB (rdI (rowAt (List.map encM l) i) 0 == x.1 && (rdI (rowAt (List.map encM l) i) 1 == x.2 && true))
      ((Ex.ret, mkS 142 [(4, AV.nil), (5, goI 1)] [Row.dead, Row.dead, Row.dead, Row.dead]) = r)
      ((0 ≤ (↑i : Int) ∧
          (List.map encM l)[i]? =
            some
              [goI (rdI (rowAt (List.map encM l) i) 0), goI (rdI (rowAt (List.map encM l) i) 1),
                goI (rdI (rowAt (List.map encM l) i) 2), goI (rdI (rowAt (List.map encM l) i) 3)]) ∧
        TB (rdI (rowAt (List.map encM l) i) 2 == x.1 && (rdI (rowAt (List.map encM l) i) 3 == x.2 && true))
          ((Ex.ret, mkS 142 [(4, AV.nil), (5, goI 1)] [Row.dead, Row.dead, Row.dead, Row.dead]) = r)
          ((0 ≤ (↑i : Int) ∧
              (List.map encM l)[i]? =
                some
                  [goI (rdI (rowAt (List.map encM l) i) 0), goI (rdI (rowAt (List.map encM l) i) 1),
                    goI (rdI (rowAt (List.map encM l) i) 2), goI (rdI (rowAt (List.map encM l) i) 3)]) ∧
            (0 ≤ (↑i : Int) ∧
                (List.map encM l)[i]? =
                  some
                    [goI (rdI (rowAt (List.map encM l) i) 0), goI (rdI (rowAt (List.map encM l) i) 1),
                      goI (rdI (rowAt (List.map encM l) i) 2), goI (rdI (rowAt (List.map encM l) i) 3)]) ∧
              TB
                (!(rdI (rowAt (List.map encM l) i) 0 == rdI (rowAt (List.map encM l) i) 2 &&
                    (rdI (rowAt (List.map encM l) i) 1 == rdI (rowAt (List.map encM l) i) 3 && true)))
                ((0 ≤ (↑i : Int) ∧
                    (List.map encM l)[i]? =
                      some
                        [goI (rdI (rowAt (List.map encM l) i) 0), goI (rdI (rowAt (List.map encM l) i) 1),
                          goI (rdI (rowAt (List.map encM l) i) 2), goI (rdI (rowAt (List.map encM l) i) 3)]) ∧
                  true = true ∧
                    (List.length os0 = List.length os0 ∧ List.length os0 + 1 ≤ 1000000) ∧
                      LoopTo Try.prog H (H 10) 0 (loopOf Try.prog 10 5)
                        (mkS 142
                          [(0, AV.sl (List.map encM l)), (3, AV.pt 0 0 0), (6, AV.os 2 0 (List.length os0 + 1)),
                            (7, AV.os 3 0 0), (8, goI (IntKind.wrap IntKind.i64 ((↑i : Int) + 1)))]
                          [Row.box [goI x.1, goI x.2], Row.dead,
                            Row.arr 4
                              (os0 ++
                                [[goI (rdI (rowAt (List.map encM l) i) 0), goI (rdI (rowAt (List.map encM l) i) 1),
                                    goI (rdI (rowAt (List.map encM l) i) 2), goI (rdI (rowAt (List.map encM l) i) 3)]]),
                            Row.arr 4 []])
                        r)
                (LoopTo Try.prog H (H 10) 0 (loopOf Try.prog 10 5)
                  (mkS 142
                    [(0, AV.sl (List.map encM l)), (3, AV.pt 0 0 0), (6, AV.os 2 0 (List.length os0)), (7, AV.os 3 0 0),
                      (8, goI (IntKind.wrap IntKind.i64 ((↑i : Int) + 1)))]
                    [Row.box [goI x.1, goI x.2], Row.dead, Row.arr 4 os0, Row.arr 4 []])
                  r))))
  ((Ex.exit 0,
      mkS 142 [(3, AV.pt 0 0 0), (6, AV.os 2 0 (List.length os0)), (7, AV.os 3 0 0)]
        [Row.box [goI x.1, goI x.2], Row.dead, Row.arr 4 os0, Row.arr 4 []]) =
    r)) := by kernel_rfl
theorem t10_11 (x : Loc) (y : Loc) (n : Nat) (k : Nat) (v : Int) (xs : List (List AV)) (os0 : List (List AV)) (zs : List (List AV)) (zs2 : List (List AV)) (r : Ex × St) : (turnT Try.prog H (fun f args sto => CT.of (F10 true k zs f args sto))
  (L1011 x y n v xs os0 zs2 (os0 ++ [encM (Mv.mk x y)])) false (H 10) 0 (loopOf Try.prog 10 11)
  (mkS 142 [(3, AV.pt 0 0 0), (6, AV.os 2 0 n), (7, AV.os 3 0 (List.length os0))]
    [Row.box (encL x), Row.dead, Row.arr 4 xs, Row.arr 4 os0])
  r) = (TB (decide ((↑n : Int) > 0))
  (LoopTo Try.prog H (H 10) 0 (loopOf Try.prog 10 14)
      (mkS 142
        [(3, AV.pt 0 0 0), (6, AV.os 2 0 n), (7, AV.os 3 0 (List.length os0)), (9, goI (-1)),
          (10, goI (IntKind.wrap IntKind.i64 ((↑n : Int) - 1)))]
        [Row.box [goI x.1, goI x.2], Row.dead, Row.arr 4 xs, Row.arr 4 os0])
      (Ex.exit 4,
        mkS 142 [(3, AV.pt 0 0 0), (6, AV.os 2 0 n), (7, AV.os 3 0 (List.length os0)), (9, goI v)]
          [Row.box [goI x.1, goI x.2], Row.dead, Row.arr 4 xs, Row.arr 4 os0]) ∧
    TB (decide (v ≥ 0))
      ((0 ≤ v ∧ v < (↑n : Int) ∧ 0 + Int.toNat v < List.length xs) ∧
        cutAt 4 0 xs[0 + Int.toNat v]? =
            some
              [goI (rdI (rowAt xs (0 + Int.toNat v)) 0), goI (rdI (rowAt xs (0 + Int.toNat v)) 1),
                goI (rdI (rowAt xs (0 + Int.toNat v)) 2), goI (rdI (rowAt xs (0 + Int.toNat v)) 3)] ∧
          true = true ∧
            (List.length os0 = List.length os0 ∧ List.length os0 + 1 ≤ 1000000) ∧
              Wf Try.prog H 29 [AV.sl (List.take n (List.drop 0 xs)), goI v] [] =
                  some (AV.os 0 0 k, [Row.arr 4 zs], []) ∧
                (List.all zs fun r => List.all r scalarA) = true ∧
                  LoopTo Try.prog H (H 10) 0 (loopOf Try.prog 10 11)
                    (mkS 142 [(3, AV.pt 0 0 0), (6, AV.os 2 0 k), (7, AV.os 3 0 (List.length os0 + 1))]
                      [Row.box [goI x.1, goI x.2], Row.dead, Row.arr 4 zs,
                        Row.arr 4
                          (os0 ++
                            [[goI (rdI (rowAt xs (0 + Int.toNat v)) 0), goI (rdI (rowAt xs (0 + Int.toNat v)) 1),
                                goI (rdI (rowAt xs (0 + Int.toNat v)) 2), goI (rdI (rowAt xs (0 + Int.toNat v)) 3)]])])
                    r)
      ((iz 0 ≤ 0 ∧ 0 < (↑n : Int) ∧ 0 < List.length xs) ∧
        cutAt 2 0 xs[0]? = some [goI (rdI (rowAt xs 0) 0), goI (rdI (rowAt xs 0) 1)] ∧
          true = true ∧
            (List.length os0 = List.length os0 ∧ List.length os0 + 1 ≤ 1000000) ∧
              LoopTo Try.prog H (H 10) 0 (loopOf Try.prog 10 29)
                  (mkS 142
                    [(3, AV.pt 0 0 0), (6, AV.os 2 0 n), (7, AV.os 3 0 (List.length os0 + 1)), (13, AV.pt 1 0 0),
                      (14, goI 0)]
                    [Row.box [goI x.1, goI x.2], Row.box [goI (rdI (rowAt xs 0) 0), goI (rdI (rowAt xs 0) 1)],
                      Row.arr 4 xs,
                      Row.arr 4 (os0 ++ [[goI x.1, goI x.2, goI (rdI (rowAt xs 0) 0), goI (rdI (rowAt xs 0) 1)]])])
                  (Ex.exit 8,
                    mkS 142
                      [(3, AV.pt 0 0 0), (6, AV.os 2 0 n),
                        (7,
                          AV.os 3 0
                            (List.length
                              (os0 ++
                                [[goI (Mv.to (Mv.mk x y)).1, goI (Mv.to (Mv.mk x y)).2, goI (Mv.fr (Mv.mk x y)).1,
                                    goI (Mv.fr (Mv.mk x y)).2]])))]
                      [Row.box [goI x.1, goI x.2], Row.box [goI y.1, goI y.2], Row.arr 4 zs2,
                        Row.arr 4
                          (os0 ++
                            [[goI (Mv.to (Mv.mk x y)).1, goI (Mv.to (Mv.mk x y)).2, goI (Mv.fr (Mv.mk x y)).1,
                                goI (Mv.fr (Mv.mk x y)).2]])]) ∧
                LoopTo Try.prog H (H 10) 0 (loopOf Try.prog 10 11)
                  (mkS 142
                    [(3, AV.pt 0 0 0), (6, AV.os 2 0 n),
                      (7,
                        AV.os 3 0
                          (List.length
                            (os0 ++
                              [[goI (Mv.to (Mv.mk x y)).1, goI (Mv.to (Mv.mk x y)).2, goI (Mv.fr (Mv.mk x y)).1,
                                  goI (Mv.fr (Mv.mk x y)).2]])))]
                    [Row.box [goI x.1, goI x.2], Row.dead, Row.arr 4 zs2,
                      Row.arr 4
                        (os0 ++
                          [[goI (Mv.to (Mv.mk x y)).1, goI (Mv.to (Mv.mk x y)).2, goI (Mv.fr (Mv.mk x y)).1,
                              goI (Mv.fr (Mv.mk x y)).2]])])
                  r))
  ((Ex.exit 2, mkS 142 [(7, AV.os 3 0 (List.length os0))] [Row.dead, Row.dead, Row.dead, Row.arr 4 os0]) = r)) := by kernel_rfl
theorem t10_14 (x : Loc) (n : Nat) (v : Int) (j : Int) (b : Bool) (xs : List (List AV)) (os0 : List (List AV)) (r : Ex × St) : (turnT Try.prog H (fun f args sto => CT.of (F0 f args sto)) (L1014 x n v j b xs os0) false (H 10) 0
  (loopOf Try.prog 10 14)
  (mkS 142 [(3, AV.pt 0 0 0), (6, AV.os 2 0 n), (7, AV.os 3 0 (List.length os0)), (9, goI v), (10, goI j)]
    [Row.box (encL x), Row.dead, Row.arr 4 xs, Row.arr 4 os0])
  r) = (TB (decide (j ≥ 0))
  (LoopTo Try.prog H (H 10) 0 (loopOf Try.prog 10 18)
      (mkS 142
        [(3, AV.pt 0 0 0), (6, AV.os 2 0 n), (7, AV.os 3 0 (List.length os0)), (9, goI v), (10, goI j), (11, goB false),
          (12, goI 0)]
        [Row.box [goI x.1, goI x.2], Row.dead, Row.arr 4 xs, Row.arr 4 os0])
      (Ex.exit 6,
        mkS 142
          [(3, AV.pt 0 0 0), (6, AV.os 2 0 n), (7, AV.os 3 0 (List.length os0)), (9, goI v), (10, goI j), (11, goB b)]
          [Row.box [goI x.1, goI x.2], Row.dead, Row.arr 4 xs, Row.arr 4 os0]) ∧
    TB (!b)
      (LoopTo Try.prog H (H 10) 0 (loopOf Try.prog 10 14)
        (mkS 142
          [(3, AV.pt 0 0 0), (6, AV.os 2 0 n), (7, AV.os 3 0 (List.length os0)), (9, goI j),
            (10, goI (IntKind.wrap IntKind.i64 (j - 1)))]
          [Row.box [goI x.1, goI x.2], Row.dead, Row.arr 4 xs, Row.arr 4 os0])
        r)
      (LoopTo Try.prog H (H 10) 0 (loopOf Try.prog 10 14)
        (mkS 142
          [(3, AV.pt 0 0 0), (6, AV.os 2 0 n), (7, AV.os 3 0 (List.length os0)), (9, goI v),
            (10, goI (IntKind.wrap IntKind.i64 (j - 1)))]
          [Row.box [goI x.1, goI x.2], Row.dead, Row.arr 4 xs, Row.arr 4 os0])
        r))
  ((Ex.exit 4,
      mkS 142 [(3, AV.pt 0 0 0), (6, AV.os 2 0 n), (7, AV.os 3 0 (List.length os0)), (9, goI v)]
        [Row.box [goI x.1, goI x.2], Row.dead, Row.arr 4 xs, Row.arr 4 os0]) =
    r)) := by kernel_rfl
theorem t10_18 (x : Loc) (n : Nat) (k : Nat) (v : Int) (j : Int) (a : Bool) (xs : List (List AV)) (os0 : List (List AV)) (r : Ex × St) : (turnT Try.prog H (fun f args sto => CT.of (F0 f args sto)) L0 false (H 10) 0 (loopOf Try.prog 10 18)
  (mkS 142
    [(3, AV.pt 0 0 0), (6, AV.os 2 0 n), (7, AV.os 3 0 (List.length os0)), (9, goI v), (10, goI j), (11, goB a),
      (12, goI (↑k : Int))]
    [Row.box (encL x), Row.dead, Row.arr 4 xs, Row.arr 4 os0])
  r) = (TB (decide ((↑k : Int) < (↑n : Int)))
  (TB a
    (LoopTo Try.prog H (H 10) 0 (loopOf Try.prog 10 18)
      (mkS 142
        [(3, AV.pt 0 0 0), (6, AV.os 2 0 n), (7, AV.os 3 0 (List.length os0)), (9, goI v), (10, goI j), (11, goB true),
          (12, goI (IntKind.wrap IntKind.i64 ((↑k : Int) + 1)))]
        [Row.box [goI x.1, goI x.2], Row.dead, Row.arr 4 xs, Row.arr 4 os0])
      r)
    (TB (!(↑k : Int) == j)
      ((0 ≤ (↑k : Int) ∧ (↑k : Int) < (↑n : Int) ∧ 0 + k < List.length xs) ∧
        cutAt 2 2 xs[0 + k]? = some [goI (rdI (rowAt xs (0 + k)) 2), goI (rdI (rowAt xs (0 + k)) 3)] ∧
          (0 ≤ j ∧ j < (↑n : Int) ∧ 0 + Int.toNat j < List.length xs) ∧
            cutAt 2 0 xs[0 + Int.toNat j]? =
                some [goI (rdI (rowAt xs (0 + Int.toNat j)) 0), goI (rdI (rowAt xs (0 + Int.toNat j)) 1)] ∧
              LoopTo Try.prog H (H 10) 0 (loopOf Try.prog 10 18)
                (mkS 142
                  [(3, AV.pt 0 0 0), (6, AV.os 2 0 n), (7, AV.os 3 0 (List.length os0)), (9, goI v), (10, goI j),
                    (11,
                      goB
                        (rdI (rowAt xs (0 + k)) 2 == rdI (rowAt xs (0 + Int.toNat j)) 0 &&
                          (rdI (rowAt xs (0 + k)) 3 == rdI (rowAt xs (0 + Int.toNat j)) 1 && true))),
                    (12, goI (IntKind.wrap IntKind.i64 ((↑k : Int) + 1)))]
                  [Row.box [goI x.1, goI x.2], Row.dead, Row.arr 4 xs, Row.arr 4 os0])
                r)
      (LoopTo Try.prog H (H 10) 0 (loopOf Try.prog 10 18)
        (mkS 142
          [(3, AV.pt 0 0 0), (6, AV.os 2 0 n), (7, AV.os 3 0 (List.length os0)), (9, goI v), (10, goI j),
            (11, goB false), (12, goI (IntKind.wrap IntKind.i64 ((↑k : Int) + 1)))]
          [Row.box [goI x.1, goI x.2], Row.dead, Row.arr 4 xs, Row.arr 4 os0])
        r)))
  ((Ex.exit 6,
      mkS 142
        [(3, AV.pt 0 0 0), (6, AV.os 2 0 n), (7, AV.os 3 0 (List.length os0)), (9, goI v), (10, goI j), (11, goB a)]
        [Row.box [goI x.1, goI x.2], Row.dead, Row.arr 4 xs, Row.arr 4 os0]) =
    r)) := by kernel_rfl
theorem t10_29 (x : Loc) (y : Loc) (n : Nat) (i : Nat) (xs : List (List AV)) (os0 : List (List AV)) (r : Ex × St) : (turnT Try.prog H (fun f args sto => CT.of (F0 f args sto)) L0 false (H 10) 0 (loopOf Try.prog 10 29)
  (mkS 142
    [(3, AV.pt 0 0 0), (6, AV.os 2 0 n), (7, AV.os 3 0 (List.length os0)), (13, AV.pt 1 0 0), (14, goI (↑i : Int))]
    [Row.box (encL x), Row.box (encL y), Row.arr 4 xs, Row.arr 4 os0])
  r) = (TB (decide ((↑i : Int) < (↑n : Int)))
  ((0 ≤ (↑i : Int) ∧ (↑i : Int) < (↑n : Int) ∧ 0 + i < List.length xs) ∧
    cutAt 2 2 xs[0 + i]? = some [goI (rdI (rowAt xs (0 + i)) 2), goI (rdI (rowAt xs (0 + i)) 3)] ∧
      TB (rdI (rowAt xs (0 + i)) 2 == y.1 && (rdI (rowAt xs (0 + i)) 3 == y.2 && true))
        ((0 ≤ (↑i : Int) ∧ (↑i : Int) < (↑n : Int) ∧ 0 + i < List.length xs) ∧
          Option.map List.length xs[0 + i]? = some 4 ∧
            LoopTo Try.prog H (H 10) 0 (loopOf Try.prog 10 29)
              (mkS 142
                [(3, AV.pt 0 0 0), (6, AV.os 2 0 n), (7, AV.os 3 0 (List.length os0)), (13, AV.pt 1 0 0),
                  (14, goI (IntKind.wrap IntKind.i64 ((↑i : Int) + 1)))]
                [Row.box [goI x.1, goI x.2], Row.box [goI y.1, goI y.2],
                  Row.arr 4 (List.set xs (0 + i) (splice (rowAt xs (0 + i)) 2 [goI x.1, goI x.2])), Row.arr 4 os0])
              r)
        (LoopTo Try.prog H (H 10) 0 (loopOf Try.prog 10 29)
          (mkS 142
            [(3, AV.pt 0 0 0), (6, AV.os 2 0 n), (7, AV.os 3 0 (List.length os0)), (13, AV.pt 1 0 0),
              (14, goI (IntKind.wrap IntKind.i64 ((↑i : Int) + 1)))]
            [Row.box [goI x.1, goI x.2], Row.box [goI y.1, goI y.2], Row.arr 4 xs, Row.arr 4 os0])
          r))
  ((Ex.exit 8,
      mkS 142 [(3, AV.pt 0 0 0), (6, AV.os 2 0 n), (7, AV.os 3 0 (List.length os0))]
        [Row.box [goI x.1, goI x.2], Row.box [goI y.1, goI y.2], Row.arr 4 xs, Row.arr 4 os0]) =
    r)) := by kernel_rfl
namespace U
def asked (K : List Mv) (j k : Nat) : Bool := !(allFrom (fun k => !(decide (k ≠ j) && decide (fr K k = to K j))) k K.length)
def open_ (K : List Mv) (j : Nat) : Bool := !(asked K j 0)
end U
theorem Loc.beq (x y : Loc) : (x.k == y.k && x.n == y.n) = decide (x = y) := by rw [Bool.eq_iff_iff]; simp [Loc.eq_iff]
theorem rowM {K : List Mv} {i : Nat} (h : i < K.length) : rowAt (K.map encM) (0 + i) = [goI (U.to K i).k, goI (U.to K i).n, goI (U.fr K i).k, goI (U.fr K i).n] := by rw [Nat.zero_add]; exact row13 h
theorem getM {K : List Mv} {i : Nat} (h : i < K.length) : (K.map encM)[0 + i]? = some [goI (U.to K i).k, goI (U.to K i).n, goI (U.fr K i).k, goI (U.fr K i).n] := by rw [Nat.zero_add]; exact map13 h
theorem encM_at (K : List Mv) (i : Nat) : encM (K.getD i default) = [goI (U.to K i).k, goI (U.to K i).n, goI (U.fr K i).k, goI (U.fr K i).n] := rfl
theorem loop10_18 (x : Loc) (K : List Mv) (hK : K.length < 1000000) (v : Int) (j : Nat) (hj : j < K.length) (os0 : List (List AV)) : ∀ (d k : Nat) (a : Bool), k + d = K.length →
    LoopTo Try.prog H (H 10) 0 (loopOf Try.prog 10 18) (mkS 142 [(3, .pt 0 0 0), (6, .os 2 0 K.length), (7, .os 3 0 os0.length), (9, goI v), (10, goI (j : Int)), (11, goB a), (12, goI k)] [.box (encL x), .dead, .arr 4 (K.map encM), .arr 4 os0])
      (.exit 6, mkS 142 [(3, .pt 0 0 0), (6, .os 2 0 K.length), (7, .os 3 0 os0.length), (9, goI v), (10, goI (j : Int)), (11, goB (a || U.asked K j k))] [.box (encL x), .dead, .arr 4 (K.map encM), .arr 4 os0])
  | 0, k, a, hd => by
    refine turnK (t10_18 x K.length k v j a _ os0 _) ?_
    have hk : k = K.length := by omega
    subst hk
    simp [TB_iff, U.asked, allFrom_end, encL]
  | d + 1, k, a, hd => by
    refine turnK (t10_18 x K.length k v j a _ os0 _) ?_
    have hk : k < K.length := by omega
    have ih := fun a => loop10_18 x K hK v j hj os0 d (k + 1) a (by omega)
    have hwr : IntKind.i64.wrap ((k : Int) + 1) = ((k + 1 : Nat) : Int) := by rw [wrap64] <;> omega
    have hs : U.asked K j k = ((decide (k ≠ j) && decide (U.fr K k = U.to K j)) || U.asked K j (k + 1)) := by
      unfold U.asked; rw [allFrom_step _ hk]; simp [Bool.not_and]
    rw [hwr, rowM hk, getM hk, Int.toNat_natCast, rowM hj, getM hj]
    simp only [TB_iff, decide_eq_true_eq, rdI, List.getD_cons_zero, List.getD_cons_succ, int_goI, Bool.and_true]
    refine ⟨fun _ => ⟨fun ha => ?_, fun ha => ⟨fun hne => ⟨⟨by omega, by omega, by simp; omega⟩, rfl, ⟨by omega, by omega, by simp; omega⟩, rfl, ?_⟩, fun he => ?_⟩⟩, fun h => absurd h (by simp; omega)⟩
    · subst ha; have h1 := ih true; simp only [Bool.true_or] at h1 ⊢; exact h1
    · subst ha
      have h1 := ih (decide (U.fr K k = U.to K j))
      have hkj : k ≠ j := by intro e; subst e; simp at hne
      rw [hs, Loc.beq]
      simp only [hkj, ne_eq, not_false_eq_true, decide_true, Bool.true_and, Bool.false_or] at h1 ⊢
      exact h1
    · subst ha
      have hkj : k = j := by simp at he; omega
      have h1 := ih false
      rw [hs, hkj]
      simp only [ne_eq, not_true_eq_false, decide_false, Bool.false_and, Bool.false_or] at h1 ⊢
      rw [hkj] at h1
      exact h1
theorem firstOf_last (p : Nat → Bool) : ∀ d i, U.firstOf p (d + 1) i = if 0 ≤ U.firstOf p d i then U.firstOf p d i else if p (i + d) then ((i + d : Nat) : Int) else -1 := by
  intro d
  induction d with
  | zero => intro i; simp [U.firstOf]
  | succ d ih =>
    intro i
    have e1 : U.firstOf p (d + 1 + 1) i = if p i then (i : Int) else U.firstOf p (d + 1) (i + 1) := rfl
    have e2 : U.firstOf p (d + 1) i = if p i then (i : Int) else U.firstOf p d (i + 1) := rfl
    rw [e1, e2, ih (i + 1)]
    by_cases h : p i = true
    · rw [if_pos h, if_pos h, if_pos (by omega)]
    · rw [if_neg h, if_neg h, show i + 1 + d = i + (d + 1) from by omega]
theorem firstOf_congr {p q : Nat → Bool} : ∀ d i, (∀ j, i ≤ j → j < i + d → p j = q j) → U.firstOf p d i = U.firstOf q d i := by
  intro d
  induction d with
  | zero => intro i _; rfl
  | succ d ih =>
    intro i h
    simp only [U.firstOf]
    rw [h i (Nat.le_refl _) (by omega), ih (i + 1) (fun j h1 h2 => h j (by omega) (by omega))]
def orElse (w v : Int) : Int := if 0 ≤ w then w else v
theorem loop10_14 (x : Loc) (K : List Mv) (hK : K.length < 1000000) (os0 : List (List AV)) : ∀ (d : Nat) (v : Int), d ≤ K.length →
    LoopTo Try.prog H (H 10) 0 (loopOf Try.prog 10 14) (mkS 142 [(3, .pt 0 0 0), (6, .os 2 0 K.length), (7, .os 3 0 os0.length), (9, goI v), (10, goI ((d : Int) - 1))] [.box (encL x), .dead, .arr 4 (K.map encM), .arr 4 os0])
      (.exit 4, mkS 142 [(3, .pt 0 0 0), (6, .os 2 0 K.length), (7, .os 3 0 os0.length), (9, goI (orElse (U.firstOf (U.open_ K) d 0) v))] [.box (encL x), .dead, .arr 4 (K.map encM), .arr 4 os0])
  | 0, v, hd => by
    refine turnK (t10_14 x K.length v _ false _ os0 _) ?_
    simp [TB_iff, encL, orElse, U.firstOf]
  | d + 1, v, hd => by
    have h18 := loop10_18 x K hK v d (by omega) os0 K.length 0 false (by omega)
    have e : ((d + 1 : Nat) : Int) - 1 = (d : Int) := by omega
    rw [e]
    refine turnK (t10_14 x K.length v d (U.asked K d 0) _ os0 _) ?_
    have hwr : IntKind.i64.wrap ((d : Int) - 1) = (d : Int) - 1 := by rw [wrap64] <;> omega
    have ih := fun v => loop10_14 x K hK os0 d v (by omega)
    rw [hwr]
    simp only [Bool.false_or] at h18
    simp only [TB_iff, decide_eq_true_eq]
    refine ⟨fun _ => ⟨h18, fun h => ?_, fun h => ?_⟩, fun h => absurd h (by simp)⟩
    · have e2 : orElse (U.firstOf (U.open_ K) (d + 1) 0) v = orElse (U.firstOf (U.open_ K) d 0) d := by
        unfold orElse
        have ho : U.open_ K (0 + d) = true := by rw [Nat.zero_add]; exact h
        rw [firstOf_last, if_pos ho]
        by_cases h1 : 0 ≤ U.firstOf (U.open_ K) d 0
        · simp [h1]
        · simp only [h1, if_false]; rw [if_pos (by omega), Nat.zero_add]
      rw [e2]; exact ih d
    · have e2 : orElse (U.firstOf (U.open_ K) (d + 1) 0) v = orElse (U.firstOf (U.open_ K) d 0) v := by
        unfold orElse
        have ho : ¬ U.open_ K (0 + d) = true := by rw [Nat.zero_add]; unfold U.open_; rw [h]; simp
        rw [firstOf_last, if_neg ho]
        by_cases h1 : 0 ≤ U.firstOf (U.open_ K) d 0
        · simp [h1]
        · simp [h1]
      rw [e2]; exact ih v
theorem loop10_29 (x y : Loc) (K : List Mv) (hK : K.length < 1000000) (os0 : List (List AV)) : ∀ (d i : Nat), i + d = K.length →
    LoopTo Try.prog H (H 10) 0 (loopOf Try.prog 10 29) (mkS 142 [(3, .pt 0 0 0), (6, .os 2 0 K.length), (7, .os 3 0 os0.length), (13, .pt 1 0 0), (14, goI i)] [.box (encL x), .box (encL y), .arr 4 ((cur x y K i).map encM ++ []), .arr 4 os0])
      (.exit 8, mkS 142 [(3, .pt 0 0 0), (6, .os 2 0 K.length), (7, .os 3 0 os0.length)] [.box (encL x), .box (encL y), .arr 4 ((K.map (sub x y)).map encM), .arr 4 os0])
  | 0, i, hd => by
    refine turnK (t10_29 x y K.length i _ os0 _) ?_
    have hi : i = K.length := by omega
    subst hi
    have e : cur x y K K.length = K.map (sub x y) := by simp [cur]
    rw [e]
    simp [TB_iff, encL]
  | d + 1, i, hd => by
    refine turnK (t10_29 x y K.length i _ os0 _) ?_
    have hi : i < K.length := by omega
    have ih := loop10_29 x y K hK os0 d (i + 1) (by omega)
    have hwr : IntKind.i64.wrap ((i : Int) + 1) = ((i + 1 : Nat) : Int) := by rw [wrap64] <;> omega
    have hA : ((K.take i).map (sub x y)).length = i := by simp; omega
    rw [cur_next x y K hi] at ih
    rw [cur_at x y K hi]
    generalize hm : K.getD i default = m at ih ⊢
    generalize (K.take i).map (sub x y) = A at hA ih ⊢
    have hlen : i < ((A ++ m :: K.drop (i + 1)).map encM ++ []).length := by simp; omega
    rw [mid_get A m _ [] hA, mid_row A m _ [] hA]
    have e1 : encM m = [goI m.to.k, goI m.to.n, goI m.fr.k, goI m.fr.n] := rfl
    simp only [TB_iff, decide_eq_true_eq, hwr]
    refine ⟨fun _ => ⟨⟨by omega, by omega, by omega⟩, ?_⟩, fun h => absurd h (by simp; omega)⟩
    refine ⟨by rw [e1]; rfl, fun h => ?_, fun h => ?_⟩
    · have hf : m.fr = y := by rw [Loc.eq_iff]; simpa [e1] using h
      have es : sub x y m = ⟨m.to, x⟩ := by simp [sub, hf]
      refine ⟨⟨by omega, by omega, by omega⟩, by rw [e1]; rfl, ?_⟩
      have ep : splice (encM m) 2 [goI x.k, goI x.n] = encM (sub x y m) := by rw [es]; rfl
      rw [ep, mid_set A m _ _ [] hA]
      exact ih
    · have hf : ¬ m.fr = y := by rw [Loc.eq_iff]; simpa [e1] using h
      have es : sub x y m = m := by simp [sub, hf]
      rw [es] at ih
      exact ih
end Go.Proofs.Ythbkemkjkpaoaab.E
