/- Functions, by what the evaluator asks; the theorems t.. were printed by show.txt, a program of this session. -/
import Derived.Test.Ythbkemkjkpaoaac16l
set_option linter.unusedVariables false
set_option linter.unusedSimpArgs false
set_option maxRecDepth 100000
namespace Go.Proofs.Ythbkemkjkpaoaac.E
open Go
set_option maxHeartbeats 4000000
namespace U
/-- Is one of those that aren't kept across a call there where another one begins? -/
def thereAt (l : List Span) (i k : Nat) : Bool := !(sp l k).call && (decide ((sp l k).fr ≤ (sp l i).fr) && decide ((sp l i).fr ≤ (sp l k).to))
def there (l : List Span) (i k : Nat) : Nat := ((List.range k).filter (thereAt l i)).length
end U
def F7 : CallT := fun f args sto => match f, args with
 | 8, _ => .is (goB true, [], [])
 | 9, [.sl l, .v (.int _ k)] => .by (U.goodR l k) (.is (.tup [.os 0 0 l.length, goI 0], [.arr 2 (U.scanR l k)], [])) (.is (.tup [.sl [], goI 1], [], []))
 | 17, [.sl s, .sl l] => .is (goB (U.clashR s l), [], [])
 | _, _ => .no

theorem t7 (l : List Span) (k : Int) (a : List (List AV)) (m : Nat) (r : AV × List Row × List Nat) : (runT Try.prog H F7
  (fun id st =>
    match id with
    | 12 => LT.is (Ex.exit 0) (mkS 176 [(0, AV.sl (List.map encS l)), (1, goI k), (5, AV.sl a), (7, goI (↑m : Int))])
    | 24 => LT.is (Ex.exit 4) (mkS 176 [])
    | x => LT.no)
  false 7 [AV.sl (List.map encS l), goI k] [] fun q => q = r) = (Wf Try.prog H 8 [] [] = some (goB true, [], []) ∧
  TB (decide ((↑(List.length (List.map encS l)) : Int) > 100)) ((goB true, [], []) = r)
    (TB (U.goodR (List.map encS l) k)
      (Wf Try.prog H 9 [AV.sl (List.map encS l), goI k] [] =
          some
            (AV.tup [AV.os 0 0 (List.length (List.map encS l)), goI 0], [Row.arr 2 (U.scanR (List.map encS l) k)], []) ∧
        TB
          (!(↑(List.length (List.take (List.length (List.map encS l)) (List.drop 0 (U.scanR (List.map encS l) k)))) :
                Int) ==
              (↑(List.length (List.map encS l)) : Int))
          ((goB false, [], []) = r)
          (Wf Try.prog H 17
                [AV.sl (List.map encS l),
                  AV.sl (List.take (List.length (List.map encS l)) (List.drop 0 (U.scanR (List.map encS l) k)))]
                [] =
              some
                (goB
                    (U.clashR (List.map encS l)
                      (List.take (List.length (List.map encS l)) (List.drop 0 (U.scanR (List.map encS l) k)))),
                  [], []) ∧
            TB
              (U.clashR (List.map encS l)
                (List.take (List.length (List.map encS l)) (List.drop 0 (U.scanR (List.map encS l) k))))
              ((goB false, [], []) = r)
              (LoopTo Try.prog H (H 7) 0 (loopOf Try.prog 7 12)
                  (mkS 176
                    [(0, AV.sl (List.map encS l)), (1, goI k),
                      (5,
                        AV.sl (List.take (List.length (List.map encS l)) (List.drop 0 (U.scanR (List.map encS l) k)))),
                      (7, goI 0), (8, goI 0)])
                  (Ex.exit 0, mkS 176 [(0, AV.sl (List.map encS l)), (1, goI k), (5, AV.sl a), (7, goI (↑m : Int))]) ∧
                LoopTo Try.prog H (H 7) 0 (loopOf Try.prog 7 24)
                    (mkS 176 [(0, AV.sl (List.map encS l)), (1, goI k), (5, AV.sl a), (7, goI (↑m : Int)), (11, goI 0)])
                    (Ex.exit 4, mkS 176 []) ∧
                  (goB true, [], []) = r)))
      (Wf Try.prog H 9 [AV.sl (List.map encS l), goI k] [] = some (AV.tup [AV.sl [], goI 1], [], []) ∧
        (goB true, [], []) = r))) := by kernel_rfl
theorem t7_12 (l : List Span) (a : List Loc) (n : Nat) (m : Nat) (i : Nat) (c : Nat) (r : Ex × St) : (turnT Try.prog H F7
  (fun id st =>
    LT.is (Ex.exit 2)
      (mkS 176
        [(0, AV.sl (List.map encS l)), (1, goI (↑n : Int)), (5, AV.sl (List.map encL a)), (7, goI (↑m : Int)),
          (8, goI (↑i : Int)), (9, goI (↑c : Int))]))
  false (H 7) 0 (loopOf Try.prog 7 12)
  (mkS 176
    [(0, AV.sl (List.map encS l)), (1, goI (↑n : Int)), (5, AV.sl (List.map encL a)), (7, goI (↑m : Int)),
      (8, goI (↑i : Int))])
  r) = (TB (decide ((↑i : Int) < (↑(List.length (List.map encS l)) : Int)))
  ((0 ≤ (↑i : Int) ∧
      (List.map encS l)[i]? =
        some
          [goI (rdI (rowAt (List.map encS l) i) 0), goI (rdI (rowAt (List.map encS l) i) 1),
            goI (rdI (rowAt (List.map encS l) i) 2), goB (rdB (rowAt (List.map encS l) i) 3)]) ∧
    TB (rdB (rowAt (List.map encS l) i) 3)
      ((0 ≤ (↑i : Int) ∧
          (List.map encL a)[i]? =
            some [goI (rdI (rowAt (List.map encL a) i) 0), goI (rdI (rowAt (List.map encL a) i) 1)]) ∧
        TB (!rdI (rowAt (List.map encL a) i) 0 == 2) ((Ex.ret, mkS 176 [(4, goB false)]) = r)
          ((0 ≤ (↑i : Int) ∧
              (List.map encL a)[i]? =
                some [goI (rdI (rowAt (List.map encL a) i) 0), goI (rdI (rowAt (List.map encL a) i) 1)]) ∧
            TB (rdI (rowAt (List.map encL a) i) 0 == 1)
              ((0 ≤ (↑i : Int) ∧
                  (List.map encL a)[i]? =
                    some [goI (rdI (rowAt (List.map encL a) i) 0), goI (rdI (rowAt (List.map encL a) i) 1)]) ∧
                TB (decide (rdI (rowAt (List.map encL a) i) 1 < 0)) ((Ex.ret, mkS 176 [(4, goB false)]) = r)
                  ((0 ≤ (↑i : Int) ∧
                      (List.map encL a)[i]? =
                        some [goI (rdI (rowAt (List.map encL a) i) 0), goI (rdI (rowAt (List.map encL a) i) 1)]) ∧
                    TB (decide (rdI (rowAt (List.map encL a) i) 1 ≥ (↑n : Int)))
                      ((Ex.ret, mkS 176 [(4, goB false)]) = r)
                      ((0 ≤ (↑i : Int) ∧
                          (List.map encL a)[i]? =
                            some [goI (rdI (rowAt (List.map encL a) i) 0), goI (rdI (rowAt (List.map encL a) i) 1)]) ∧
                        TB (rdI (rowAt (List.map encL a) i) 0 == 0) ((Ex.ret, mkS 176 [(4, goB false)]) = r)
                          ((0 ≤ (↑i : Int) ∧
                              (List.map encL a)[i]? =
                                some
                                  [goI (rdI (rowAt (List.map encL a) i) 0), goI (rdI (rowAt (List.map encL a) i) 1)]) ∧
                            TB (rdI (rowAt (List.map encL a) i) 0 == 2)
                              ((0 ≤ (↑i : Int) ∧
                                  (List.map encL a)[i]? =
                                    some
                                      [goI (rdI (rowAt (List.map encL a) i) 0),
                                        goI (rdI (rowAt (List.map encL a) i) 1)]) ∧
                                TB
                                  (decide
                                    (rdI (rowAt (List.map encL a) i) 1 ≥ (↑(List.length (List.map encS l)) : Int)))
                                  ((Ex.ret, mkS 176 [(4, goB false)]) = r)
                                  (LoopTo Try.prog H (H 7) 0 (loopOf Try.prog 7 18)
                                      (mkS 176
                                        [(0, AV.sl (List.map encS l)), (1, goI (↑n : Int)),
                                          (5, AV.sl (List.map encL a)), (7, goI (↑m : Int)), (8, goI (↑i : Int)),
                                          (9, goI 0), (10, goI 0)])
                                      (Ex.exit 2,
                                        mkS 176
                                          [(0, AV.sl (List.map encS l)), (1, goI (↑n : Int)),
                                            (5, AV.sl (List.map encL a)), (7, goI (↑m : Int)), (8, goI (↑i : Int)),
                                            (9, goI (↑c : Int))]) ∧
                                    LoopTo Try.prog H (H 7) 0 (loopOf Try.prog 7 12)
                                      (mkS 176
                                        [(0, AV.sl (List.map encS l)), (1, goI (↑n : Int)),
                                          (5, AV.sl (List.map encL a)),
                                          (7,
                                            goI
                                              (if true = true then
                                                if (↑m : Int) < (↑c : Int) then (↑c : Int) else (↑m : Int)
                                              else if (↑c : Int) < (↑m : Int) then (↑c : Int) else (↑m : Int))),
                                          (8, goI (IntKind.wrap IntKind.i64 ((↑i : Int) + 1)))])
                                      r))
                              (LoopTo Try.prog H (H 7) 0 (loopOf Try.prog 7 18)
                                  (mkS 176
                                    [(0, AV.sl (List.map encS l)), (1, goI (↑n : Int)), (5, AV.sl (List.map encL a)),
                                      (7, goI (↑m : Int)), (8, goI (↑i : Int)), (9, goI 0), (10, goI 0)])
                                  (Ex.exit 2,
                                    mkS 176
                                      [(0, AV.sl (List.map encS l)), (1, goI (↑n : Int)), (5, AV.sl (List.map encL a)),
                                        (7, goI (↑m : Int)), (8, goI (↑i : Int)), (9, goI (↑c : Int))]) ∧
                                LoopTo Try.prog H (H 7) 0 (loopOf Try.prog 7 12)
                                  (mkS 176
                                    [(0, AV.sl (List.map encS l)), (1, goI (↑n : Int)), (5, AV.sl (List.map encL a)),
                                      (7,
                                        goI
                                          (if true = true then
                                            if (↑m : Int) < (↑c : Int) then (↑c : Int) else (↑m : Int)
                                          else if (↑c : Int) < (↑m : Int) then (↑c : Int) else (↑m : Int))),
                                      (8, goI (IntKind.wrap IntKind.i64 ((↑i : Int) + 1)))])
                                  r)))))
              ((0 ≤ (↑i : Int) ∧
                  (List.map encL a)[i]? =
                    some [goI (rdI (rowAt (List.map encL a) i) 0), goI (rdI (rowAt (List.map encL a) i) 1)]) ∧
                TB (rdI (rowAt (List.map encL a) i) 0 == 0) ((Ex.ret, mkS 176 [(4, goB false)]) = r)
                  ((0 ≤ (↑i : Int) ∧
                      (List.map encL a)[i]? =
                        some [goI (rdI (rowAt (List.map encL a) i) 0), goI (rdI (rowAt (List.map encL a) i) 1)]) ∧
                    TB (rdI (rowAt (List.map encL a) i) 0 == 2)
                      ((0 ≤ (↑i : Int) ∧
                          (List.map encL a)[i]? =
                            some [goI (rdI (rowAt (List.map encL a) i) 0), goI (rdI (rowAt (List.map encL a) i) 1)]) ∧
                        TB (decide (rdI (rowAt (List.map encL a) i) 1 ≥ (↑(List.length (List.map encS l)) : Int)))
                          ((Ex.ret, mkS 176 [(4, goB false)]) = r)
                          (LoopTo Try.prog H (H 7) 0 (loopOf Try.prog 7 18)
                              (mkS 176
                                [(0, AV.sl (List.map encS l)), (1, goI (↑n : Int)), (5, AV.sl (List.map encL a)),
                                  (7, goI (↑m : Int)), (8, goI (↑i : Int)), (9, goI 0), (10, goI 0)])
                              (Ex.exit 2,
                                mkS 176
                                  [(0, AV.sl (List.map encS l)), (1, goI (↑n : Int)), (5, AV.sl (List.map encL a)),
                                    (7, goI (↑m : Int)), (8, goI (↑i : Int)), (9, goI (↑c : Int))]) ∧
                            LoopTo Try.prog H (H 7) 0 (loopOf Try.prog 7 12)
                              (mkS 176
                                [(0, AV.sl (List.map encS l)), (1, goI (↑n : Int)), (5, AV.sl (List.map encL a)),
                                  (7,
                                    goI
                                      (if true = true then if (↑m : Int) < (↑c : Int) then (↑c : Int) else (↑m : Int)
                                      else if (↑c : Int) < (↑m : Int) then (↑c : Int) else (↑m : Int))),
                                  (8, goI (IntKind.wrap IntKind.i64 ((↑i : Int) + 1)))])
                              r))
                      (LoopTo Try.prog H (H 7) 0 (loopOf Try.prog 7 18)
                          (mkS 176
                            [(0, AV.sl (List.map encS l)), (1, goI (↑n : Int)), (5, AV.sl (List.map encL a)),
                              (7, goI (↑m : Int)), (8, goI (↑i : Int)), (9, goI 0), (10, goI 0)])
                          (Ex.exit 2,
                            mkS 176
                              [(0, AV.sl (List.map encS l)), (1, goI (↑n : Int)), (5, AV.sl (List.map encL a)),
                                (7, goI (↑m : Int)), (8, goI (↑i : Int)), (9, goI (↑c : Int))]) ∧
                        LoopTo Try.prog H (H 7) 0 (loopOf Try.prog 7 12)
                          (mkS 176
                            [(0, AV.sl (List.map encS l)), (1, goI (↑n : Int)), (5, AV.sl (List.map encL a)),
                              (7,
                                goI
                                  (if true = true then if (↑m : Int) < (↑c : Int) then (↑c : Int) else (↑m : Int)
                                  else if (↑c : Int) < (↑m : Int) then (↑c : Int) else (↑m : Int))),
                              (8, goI (IntKind.wrap IntKind.i64 ((↑i : Int) + 1)))])
                          r)))))
      ((0 ≤ (↑i : Int) ∧
          (List.map encL a)[i]? =
            some [goI (rdI (rowAt (List.map encL a) i) 0), goI (rdI (rowAt (List.map encL a) i) 1)]) ∧
        TB (rdI (rowAt (List.map encL a) i) 0 == 1)
          ((0 ≤ (↑i : Int) ∧
              (List.map encL a)[i]? =
                some [goI (rdI (rowAt (List.map encL a) i) 0), goI (rdI (rowAt (List.map encL a) i) 1)]) ∧
            TB (decide (rdI (rowAt (List.map encL a) i) 1 < 0)) ((Ex.ret, mkS 176 [(4, goB false)]) = r)
              ((0 ≤ (↑i : Int) ∧
                  (List.map encL a)[i]? =
                    some [goI (rdI (rowAt (List.map encL a) i) 0), goI (rdI (rowAt (List.map encL a) i) 1)]) ∧
                TB (decide (rdI (rowAt (List.map encL a) i) 1 ≥ (↑n : Int))) ((Ex.ret, mkS 176 [(4, goB false)]) = r)
                  ((0 ≤ (↑i : Int) ∧
                      (List.map encL a)[i]? =
                        some [goI (rdI (rowAt (List.map encL a) i) 0), goI (rdI (rowAt (List.map encL a) i) 1)]) ∧
                    TB (rdI (rowAt (List.map encL a) i) 0 == 0) ((Ex.ret, mkS 176 [(4, goB false)]) = r)
                      ((0 ≤ (↑i : Int) ∧
                          (List.map encL a)[i]? =
                            some [goI (rdI (rowAt (List.map encL a) i) 0), goI (rdI (rowAt (List.map encL a) i) 1)]) ∧
                        TB (rdI (rowAt (List.map encL a) i) 0 == 2)
                          ((0 ≤ (↑i : Int) ∧
                              (List.map encL a)[i]? =
                                some
                                  [goI (rdI (rowAt (List.map encL a) i) 0), goI (rdI (rowAt (List.map encL a) i) 1)]) ∧
                            TB (decide (rdI (rowAt (List.map encL a) i) 1 ≥ (↑(List.length (List.map encS l)) : Int)))
                              ((Ex.ret, mkS 176 [(4, goB false)]) = r)
                              (LoopTo Try.prog H (H 7) 0 (loopOf Try.prog 7 18)
                                  (mkS 176
                                    [(0, AV.sl (List.map encS l)), (1, goI (↑n : Int)), (5, AV.sl (List.map encL a)),
                                      (7, goI (↑m : Int)), (8, goI (↑i : Int)), (9, goI 0), (10, goI 0)])
                                  (Ex.exit 2,
                                    mkS 176
                                      [(0, AV.sl (List.map encS l)), (1, goI (↑n : Int)), (5, AV.sl (List.map encL a)),
                                        (7, goI (↑m : Int)), (8, goI (↑i : Int)), (9, goI (↑c : Int))]) ∧
                                LoopTo Try.prog H (H 7) 0 (loopOf Try.prog 7 12)
                                  (mkS 176
                                    [(0, AV.sl (List.map encS l)), (1, goI (↑n : Int)), (5, AV.sl (List.map encL a)),
                                      (7,
                                        goI
                                          (if true = true then
                                            if (↑m : Int) < (↑c : Int) then (↑c : Int) else (↑m : Int)
                                          else if (↑c : Int) < (↑m : Int) then (↑c : Int) else (↑m : Int))),
                                      (8, goI (IntKind.wrap IntKind.i64 ((↑i : Int) + 1)))])
                                  r))
                          (LoopTo Try.prog H (H 7) 0 (loopOf Try.prog 7 18)
                              (mkS 176
                                [(0, AV.sl (List.map encS l)), (1, goI (↑n : Int)), (5, AV.sl (List.map encL a)),
                                  (7, goI (↑m : Int)), (8, goI (↑i : Int)), (9, goI 0), (10, goI 0)])
                              (Ex.exit 2,
                                mkS 176
                                  [(0, AV.sl (List.map encS l)), (1, goI (↑n : Int)), (5, AV.sl (List.map encL a)),
                                    (7, goI (↑m : Int)), (8, goI (↑i : Int)), (9, goI (↑c : Int))]) ∧
                            LoopTo Try.prog H (H 7) 0 (loopOf Try.prog 7 12)
                              (mkS 176
                                [(0, AV.sl (List.map encS l)), (1, goI (↑n : Int)), (5, AV.sl (List.map encL a)),
                                  (7,
                                    goI
                                      (if true = true then if (↑m : Int) < (↑c : Int) then (↑c : Int) else (↑m : Int)
                                      else if (↑c : Int) < (↑m : Int) then (↑c : Int) else (↑m : Int))),
                                  (8, goI (IntKind.wrap IntKind.i64 ((↑i : Int) + 1)))])
                              r)))))
          ((0 ≤ (↑i : Int) ∧
              (List.map encL a)[i]? =
                some [goI (rdI (rowAt (List.map encL a) i) 0), goI (rdI (rowAt (List.map encL a) i) 1)]) ∧
            TB (rdI (rowAt (List.map encL a) i) 0 == 0) ((Ex.ret, mkS 176 [(4, goB false)]) = r)
              ((0 ≤ (↑i : Int) ∧
                  (List.map encL a)[i]? =
                    some [goI (rdI (rowAt (List.map encL a) i) 0), goI (rdI (rowAt (List.map encL a) i) 1)]) ∧
                TB (rdI (rowAt (List.map encL a) i) 0 == 2)
                  ((0 ≤ (↑i : Int) ∧
                      (List.map encL a)[i]? =
                        some [goI (rdI (rowAt (List.map encL a) i) 0), goI (rdI (rowAt (List.map encL a) i) 1)]) ∧
                    TB (decide (rdI (rowAt (List.map encL a) i) 1 ≥ (↑(List.length (List.map encS l)) : Int)))
                      ((Ex.ret, mkS 176 [(4, goB false)]) = r)
                      (LoopTo Try.prog H (H 7) 0 (loopOf Try.prog 7 18)
                          (mkS 176
                            [(0, AV.sl (List.map encS l)), (1, goI (↑n : Int)), (5, AV.sl (List.map encL a)),
                              (7, goI (↑m : Int)), (8, goI (↑i : Int)), (9, goI 0), (10, goI 0)])
                          (Ex.exit 2,
                            mkS 176
                              [(0, AV.sl (List.map encS l)), (1, goI (↑n : Int)), (5, AV.sl (List.map encL a)),
                                (7, goI (↑m : Int)), (8, goI (↑i : Int)), (9, goI (↑c : Int))]) ∧
                        LoopTo Try.prog H (H 7) 0 (loopOf Try.prog 7 12)
                          (mkS 176
                            [(0, AV.sl (List.map encS l)), (1, goI (↑n : Int)), (5, AV.sl (List.map encL a)),
                              (7,
                                goI
                                  (if true = true then if (↑m : Int) < (↑c : Int) then (↑c : Int) else (↑m : Int)
                                  else if (↑c : Int) < (↑m : Int) then (↑c : Int) else (↑m : Int))),
                              (8, goI (IntKind.wrap IntKind.i64 ((↑i : Int) + 1)))])
                          r))
                  (LoopTo Try.prog H (H 7) 0 (loopOf Try.prog 7 18)
                      (mkS 176
                        [(0, AV.sl (List.map encS l)), (1, goI (↑n : Int)), (5, AV.sl (List.map encL a)),
                          (7, goI (↑m : Int)), (8, goI (↑i : Int)), (9, goI 0), (10, goI 0)])
                      (Ex.exit 2,
                        mkS 176
                          [(0, AV.sl (List.map encS l)), (1, goI (↑n : Int)), (5, AV.sl (List.map encL a)),
                            (7, goI (↑m : Int)), (8, goI (↑i : Int)), (9, goI (↑c : Int))]) ∧
                    LoopTo Try.prog H (H 7) 0 (loopOf Try.prog 7 12)
                      (mkS 176
                        [(0, AV.sl (List.map encS l)), (1, goI (↑n : Int)), (5, AV.sl (List.map encL a)),
                          (7,
                            goI
                              (if true = true then if (↑m : Int) < (↑c : Int) then (↑c : Int) else (↑m : Int)
                              else if (↑c : Int) < (↑m : Int) then (↑c : Int) else (↑m : Int))),
                          (8, goI (IntKind.wrap IntKind.i64 ((↑i : Int) + 1)))])
                      r)))))
  ((Ex.exit 0,
      mkS 176 [(0, AV.sl (List.map encS l)), (1, goI (↑n : Int)), (5, AV.sl (List.map encL a)), (7, goI (↑m : Int))]) =
    r)) := by kernel_rfl
theorem t7_18 (l : List Span) (a : List Loc) (n : Nat) (m : Nat) (i : Nat) (c : Nat) (k : Nat) (r : Ex × St) : (turnT Try.prog H F7 L0 false (H 7) 0 (loopOf Try.prog 7 18)
  (mkS 176
    [(0, AV.sl (List.map encS l)), (1, goI (↑n : Int)), (5, AV.sl (List.map encL a)), (7, goI (↑m : Int)),
      (8, goI (↑i : Int)), (9, goI (↑c : Int)), (10, goI (↑k : Int))])
  r) = (TB (decide ((↑k : Int) < (↑(List.length (List.map encS l)) : Int)))
  ((0 ≤ (↑k : Int) ∧
      (List.map encS l)[k]? =
        some
          [goI (rdI (rowAt (List.map encS l) k) 0), goI (rdI (rowAt (List.map encS l) k) 1),
            goI (rdI (rowAt (List.map encS l) k) 2), goB (rdB (rowAt (List.map encS l) k) 3)]) ∧
    TB (!rdB (rowAt (List.map encS l) k) 3)
      ((0 ≤ (↑k : Int) ∧
          (List.map encS l)[k]? =
            some
              [goI (rdI (rowAt (List.map encS l) k) 0), goI (rdI (rowAt (List.map encS l) k) 1),
                goI (rdI (rowAt (List.map encS l) k) 2), goB (rdB (rowAt (List.map encS l) k) 3)]) ∧
        (0 ≤ (↑i : Int) ∧
            (List.map encS l)[i]? =
              some
                [goI (rdI (rowAt (List.map encS l) i) 0), goI (rdI (rowAt (List.map encS l) i) 1),
                  goI (rdI (rowAt (List.map encS l) i) 2), goB (rdB (rowAt (List.map encS l) i) 3)]) ∧
          TB (decide (rdI (rowAt (List.map encS l) k) 1 ≤ rdI (rowAt (List.map encS l) i) 1))
            ((0 ≤ (↑i : Int) ∧
                (List.map encS l)[i]? =
                  some
                    [goI (rdI (rowAt (List.map encS l) i) 0), goI (rdI (rowAt (List.map encS l) i) 1),
                      goI (rdI (rowAt (List.map encS l) i) 2), goB (rdB (rowAt (List.map encS l) i) 3)]) ∧
              (0 ≤ (↑k : Int) ∧
                  (List.map encS l)[k]? =
                    some
                      [goI (rdI (rowAt (List.map encS l) k) 0), goI (rdI (rowAt (List.map encS l) k) 1),
                        goI (rdI (rowAt (List.map encS l) k) 2), goB (rdB (rowAt (List.map encS l) k) 3)]) ∧
                TB (decide (rdI (rowAt (List.map encS l) i) 1 ≤ rdI (rowAt (List.map encS l) k) 2))
                  (LoopTo Try.prog H (H 7) 0 (loopOf Try.prog 7 18)
                    (mkS 176
                      [(0, AV.sl (List.map encS l)), (1, goI (↑n : Int)), (5, AV.sl (List.map encL a)),
                        (7, goI (↑m : Int)), (8, goI (↑i : Int)), (9, goI (IntKind.wrap IntKind.i64 ((↑c : Int) + 1))),
                        (10, goI (IntKind.wrap IntKind.i64 ((↑k : Int) + 1)))])
                    r)
                  (LoopTo Try.prog H (H 7) 0 (loopOf Try.prog 7 18)
                    (mkS 176
                      [(0, AV.sl (List.map encS l)), (1, goI (↑n : Int)), (5, AV.sl (List.map encL a)),
                        (7, goI (↑m : Int)), (8, goI (↑i : Int)), (9, goI (↑c : Int)),
                        (10, goI (IntKind.wrap IntKind.i64 ((↑k : Int) + 1)))])
                    r))
            (LoopTo Try.prog H (H 7) 0 (loopOf Try.prog 7 18)
              (mkS 176
                [(0, AV.sl (List.map encS l)), (1, goI (↑n : Int)), (5, AV.sl (List.map encL a)), (7, goI (↑m : Int)),
                  (8, goI (↑i : Int)), (9, goI (↑c : Int)), (10, goI (IntKind.wrap IntKind.i64 ((↑k : Int) + 1)))])
              r))
      (LoopTo Try.prog H (H 7) 0 (loopOf Try.prog 7 18)
        (mkS 176
          [(0, AV.sl (List.map encS l)), (1, goI (↑n : Int)), (5, AV.sl (List.map encL a)), (7, goI (↑m : Int)),
            (8, goI (↑i : Int)), (9, goI (↑c : Int)), (10, goI (IntKind.wrap IntKind.i64 ((↑k : Int) + 1)))])
        r))
  ((Ex.exit 2,
      mkS 176
        [(0, AV.sl (List.map encS l)), (1, goI (↑n : Int)), (5, AV.sl (List.map encL a)), (7, goI (↑m : Int)),
          (8, goI (↑i : Int)), (9, goI (↑c : Int))]) =
    r)) := by kernel_rfl
theorem t7_24 (l : List Span) (a : List Loc) (n : Nat) (m : Nat) (i : Nat) (r : Ex × St) : (turnT Try.prog H F7 L0 false (H 7) 0 (loopOf Try.prog 7 24)
  (mkS 176
    [(0, AV.sl (List.map encS l)), (1, goI (↑n : Int)), (5, AV.sl (List.map encL a)), (7, goI (↑m : Int)),
      (11, goI (↑i : Int))])
  r) = (TB (decide ((↑i : Int) < (↑(List.length (List.map encS l)) : Int)))
  (TB (decide ((↑m : Int) ≤ (↑n : Int)))
    ((0 ≤ (↑i : Int) ∧
        (List.map encS l)[i]? =
          some
            [goI (rdI (rowAt (List.map encS l) i) 0), goI (rdI (rowAt (List.map encS l) i) 1),
              goI (rdI (rowAt (List.map encS l) i) 2), goB (rdB (rowAt (List.map encS l) i) 3)]) ∧
      TB (!rdB (rowAt (List.map encS l) i) 3)
        ((0 ≤ (↑i : Int) ∧
            (List.map encL a)[i]? =
              some [goI (rdI (rowAt (List.map encL a) i) 0), goI (rdI (rowAt (List.map encL a) i) 1)]) ∧
          TB (!rdI (rowAt (List.map encL a) i) 0 == 1) ((Ex.ret, mkS 176 [(4, goB false)]) = r)
            (LoopTo Try.prog H (H 7) 0 (loopOf Try.prog 7 24)
              (mkS 176
                [(0, AV.sl (List.map encS l)), (1, goI (↑n : Int)), (5, AV.sl (List.map encL a)), (7, goI (↑m : Int)),
                  (11, goI (IntKind.wrap IntKind.i64 ((↑i : Int) + 1)))])
              r))
        (LoopTo Try.prog H (H 7) 0 (loopOf Try.prog 7 24)
          (mkS 176
            [(0, AV.sl (List.map encS l)), (1, goI (↑n : Int)), (5, AV.sl (List.map encL a)), (7, goI (↑m : Int)),
              (11, goI (IntKind.wrap IntKind.i64 ((↑i : Int) + 1)))])
          r))
    ((Ex.exit 4, mkS 176 []) = r))
  ((Ex.exit 4, mkS 176 []) = r)) := by kernel_rfl
namespace U
/-- How many at most are there where one of the first ones begins. -/
def most (l : List Span) : Nat → Nat
  | 0 => 0
  | i + 1 => max (most l i) (there l i l.length)
end U
theorem there_step (l : List Span) (i k : Nat) : U.there l i (k + 1) = U.there l i k + if U.thereAt l i k then 1 else 0 := by
  unfold U.there
  rw [List.range_succ, List.filter_append, List.length_append]
  congr 1
  cases hc : U.thereAt l i k <;> simp [hc]
theorem there_le (l : List Span) (i k : Nat) : U.there l i k ≤ k := Nat.le_trans (List.length_filter_le _ _) (by simp)
theorem most_le (l : List Span) : ∀ i, U.most l i ≤ l.length
  | 0 => Nat.zero_le _
  | i + 1 => Nat.max_le.2 ⟨most_le l i, there_le l i _⟩
theorem most_ge (l : List Span) : ∀ (n i : Nat), i < n → U.there l i l.length ≤ U.most l n
  | 0, i, h => absurd h (Nat.not_lt_zero _)
  | n + 1, i, h => by
    show _ ≤ max (U.most l n) (U.there l n l.length)
    by_cases e : i = n
    · subst e; exact Nat.le_max_right _ _
    · exact Nat.le_trans (most_ge l n i (by omega)) (Nat.le_max_left _ _)
theorem meet_comm (a b : Span) : U.meet a b = U.meet b a := by
  unfold U.meet
  rw [Bool.eq_iff_iff]
  simp only [Bool.and_eq_true, decide_eq_true_eq]
  omega
theorem meet_no {a b : Span} (h : a.to < b.fr) : U.meet a b = false := by
  unfold U.meet
  simp only [Bool.and_eq_false_imp, decide_eq_true_eq, decide_eq_false_iff_not]
  omega
/-- No two that meet have one place. -/
def Apart (l : List Span) (i : Nat) (hs : List Loc) : Prop := ∀ j k : Nat, j < i → k < i → j ≠ k → U.lc hs j = U.lc hs k → U.meet (U.sp l j) (U.sp l k) = false
/-- What comes to one more, at a place that none that it meets has. -/
theorem apart_add {l : List Span} {i f : Nat} {hs : List Loc} {x : Loc} (hf : f < hs.length) (h : ∀ j k : Nat, j < i → k < i → j ≠ f → k ≠ f → j ≠ k → U.lc hs j = U.lc hs k → U.meet (U.sp l j) (U.sp l k) = false)
    (hx : ∀ k : Nat, k < i → k ≠ f → U.lc hs k = x → U.meet (U.sp l k) (U.sp l f) = false) : Apart l i (hs.set f x) := fun j k hj hk hjk e => by
  rw [lc_set _ _ _ hf, lc_set _ _ _ hf] at e
  by_cases h1 : j = f
  · rw [if_pos h1] at e
    by_cases h2 : k = f
    · exact absurd (h1.trans h2.symm) hjk
    · rw [if_neg h2] at e
      rw [h1, meet_comm]
      exact hx k hk h2 e.symm
  · rw [if_neg h1] at e
    by_cases h2 : k = f
    · rw [if_pos h2] at e
      rw [h2]
      exact hx j hj h1 e
    · rw [if_neg h2] at e
      exact h j k hj hk h1 h2 hjk e
theorem untaken {l : List Span} {hs : List Loc} {f : Nat} {k : Nat} (hk : k < hs.length) (h : U.lc hs k = ⟨2, U.slotOf l hs f⟩) : U.meet (U.sp l k) (U.sp l f) = false := by
  obtain ⟨_, s2, _⟩ := slotOf_spec l hs f
  cases hm : U.meet (U.sp l k) (U.sp l f) with
  | false => rfl
  | true =>
    have := taken_iff.2 ⟨k, hk, h, hm⟩
    rw [s2] at this
    cases this
theorem apart_of {l : List Span} (n : Nat) (hR : U.right l = true) : ∀ i, i ≤ l.length → Apart l i (U.upTo l n i).1
  | 0, _ => fun j k hj => absurd hj (Nat.not_lt_zero _)
  | i + 1, hi => by
    have hil : i < l.length := by omega
    have ih := apart_of n hR i (by omega)
    have hv := inv_of n hR i (by omega)
    have hm := mid_of hR hil hv
    have e : U.upTo l n (i + 1) = U.place l i (U.upTo l n i).1 (U.upTo l n i).2 := rfl
    have hih : i < (U.upTo l n i).1.length := by rw [hv.len]; exact hil
    have old : ∀ j k : Nat, j < i + 1 → k < i + 1 → j ≠ i → k ≠ i → j ≠ k → U.lc (U.upTo l n i).1 j = U.lc (U.upTo l n i).1 k → U.meet (U.sp l j) (U.sp l k) = false := fun j k hj hk h1 h2 h3 h4 => ih j k (by omega) (by omega) h3 h4
    rw [e]
    rcases place_how hil hm with ⟨_, h1⟩ | ⟨hc, w, hw, hf, h1⟩ | ⟨hc, _, w, f, hw, hf, h1⟩
    · rw [h1]
      exact apart_add hih old (fun k hk hki hx => untaken (by omega) hx)
    · rw [h1]
      refine apart_add hih old (fun k hk hki hx => ?_)
      obtain ⟨_, r, hr, h2, h3⟩ := hm.reg k (by omega) (by rw [hx])
      rw [hx] at h2
      have er : w = r := by have := congrArg Loc.n h2; simp at this; omega
      subst er
      rcases h3 with h3 | h3
      · omega
      · exact meet_no (h3 i (Nat.le_refl _) hil)
    · obtain ⟨hfi, hfl⟩ : f < i ∧ U.lc (U.upTo l n i).1 f = ⟨1, w⟩ := by
        rcases hm.has w hw with h2 | ⟨k, h2, h3, h4, _⟩
        · omega
        · have e : f = k := by omega
          subst e
          exact ⟨h3, h4⟩
      rw [h1]
      generalize hg : (U.upTo l n i).1 = hs at *
      have hfh : f < hs.length := by omega
      have hlc : ∀ k : Nat, k ≠ f → U.lc ((hs.set i (U.lc hs f)).set f ⟨0, 0⟩) k = if k = i then ⟨1, w⟩ else U.lc hs k := fun k hk => by
        rw [lc_set _ _ _ (by simpa using hfh), if_neg hk, lc_set _ _ _ hih, hfl]
      have mine : ∀ k : Nat, k < i → k ≠ f → U.lc hs k = ⟨1, w⟩ → U.meet (U.sp l k) (U.sp l i) = false := fun k hk hkf hx => by
        obtain ⟨_, r, hr, h2, h3⟩ := hm.reg k hk (by rw [hx])
        rw [hx] at h2
        have er : w = r := by have := congrArg Loc.n h2; simp at this; omega
        subst er
        rcases h3 with h3 | h3
        · omega
        · exact meet_no (h3 i (Nat.le_refl _) hil)
      refine apart_add (by simpa using hfh) (fun j k hj hk hjf hkf hjk he => ?_) (fun k hk hkf hx => untaken (by simp; omega) hx)
      rw [hlc j hjf, hlc k hkf] at he
      by_cases e1 : j = i
      · rw [if_pos e1] at he
        by_cases e2 : k = i
        · exact absurd (e1.trans e2.symm) hjk
        · rw [if_neg e2] at he
          rw [e1, meet_comm]
          exact mine k (by omega) hkf he.symm
      · rw [if_neg e1] at he
        by_cases e2 : k = i
        · rw [if_pos e2] at he
          rw [e2]
          exact mine j (by omega) hjf he
        · rw [if_neg e2] at he
          exact ih j k (by omega) (by omega) hjk he
theorem no_clash {l : List Span} (n : Nat) (hR : U.right l = true) : U.clashFrom l (U.scan l n) (min l.length (U.scan l n).length) 0 = false := by
  have ha := apart_of n hR l.length (Nat.le_refl _)
  unfold U.clashFrom
  rw [Bool.not_eq_false', allFrom_iff]
  intro i _ hi
  rw [Bool.not_eq_true']
  unfold U.clashIn
  rw [Bool.not_eq_false', allFrom_iff]
  intro k _ hk
  rw [Bool.not_eq_true']
  unfold U.clashAt
  by_cases h : U.lc (U.scan l n) i = U.lc (U.scan l n) k
  · have := ha i k (by omega) (by omega) (by omega) h
    rw [this]; simp
  · rw [decide_eq_false h]; rfl
/-- Where no register is free, more are there than registers. -/
theorem all_there {l : List Span} {n i : Nat} {hs : List Loc} {rs : List Int} (hR : U.right l = true) (hi : i < l.length) (hc : (U.sp l i).call = false) (h : Mid l n i hs rs) (hne : ∀ r : Nat, r < n → U.nt rs r ≠ -1) : n + 1 ≤ U.there l i l.length := by
  have hh : ∀ r : Nat, r < n → ∃ k : Nat, U.nt rs r = k ∧ k < i ∧ U.lc hs k = ⟨1, r⟩ ∧ (U.sp l i).fr ≤ (U.sp l k).to := fun r hr => (h.has r hr).resolve_left (hne r hr)
  have hcov := len_of_cover (a := i :: (List.range n).map fun r : Nat => (U.nt rs r).toNat) (b := (List.range l.length).filter (U.thereAt l i)) (by
    rw [List.nodup_cons]
    constructor
    · intro hm
      obtain ⟨r, hrm, e⟩ := List.mem_map.1 hm
      obtain ⟨k, h1, h2, _⟩ := hh r (List.mem_range.1 hrm)
      omega
    · unfold List.Nodup
      rw [List.pairwise_map]
      refine List.Pairwise.imp_of_mem (fun {a b} ha hb hab e => ?_) (List.nodup_range (n := n))
      obtain ⟨k, h1, _, h3, _⟩ := hh a (List.mem_range.1 ha)
      obtain ⟨k', h1', _, h3', _⟩ := hh b (List.mem_range.1 hb)
      have ek : k = k' := by omega
      subst ek
      rw [h3] at h3'
      have := congrArg Loc.n h3'
      simp at this
      omega) (fun x hx => by
    rw [List.mem_filter, List.mem_range]
    unfold U.thereAt
    simp only [Bool.and_eq_true, Bool.not_eq_true', decide_eq_true_eq]
    rcases List.mem_cons.1 hx with rfl | hx
    · exact ⟨hi, hc, Int.le_refl _, (right_ok hR hi).2.1⟩
    · obtain ⟨r, hrm, rfl⟩ := List.mem_map.1 hx
      obtain ⟨k, h1, h2, h3, h4⟩ := hh r (List.mem_range.1 hrm)
      rw [h1, Int.toNat_natCast]
      exact ⟨by omega, (h.reg k h2 (by rw [h3])).1, right_le hR (by omega) hi, h4⟩)
  rw [List.length_cons, List.length_map, List.length_range] at hcov
  exact hcov
/-- With registers enough where each begins, each one has one. -/
theorem all_regs {l : List Span} {n : Nat} (hR : U.right l = true) (hn : ∀ i, i < l.length → U.there l i l.length ≤ n) : ∀ i, i ≤ l.length → ∀ k : Nat, k < i → (U.sp l k).call = false → (U.lc (U.upTo l n i).1 k).k = 1
  | 0, _ => fun k hk => absurd hk (Nat.not_lt_zero _)
  | i + 1, hi => by
    have hil : i < l.length := by omega
    have ih := all_regs hR hn i (by omega)
    have hv := inv_of n hR i (by omega)
    have hm := mid_of hR hil hv
    have e : U.upTo l n (i + 1) = U.place l i (U.upTo l n i).1 (U.upTo l n i).2 := rfl
    have hih : i < (U.upTo l n i).1.length := by rw [hv.len]; exact hil
    intro k hk hkc
    rw [e]
    rcases place_how hil hm with ⟨hc, h1⟩ | ⟨hc, w, hw, hf, h1⟩ | ⟨hc, hne, w, f, hw, hf, h1⟩
    · rw [h1]
      simp only
      rw [lc_set _ _ _ hih]
      by_cases ek : k = i
      · subst ek
        rcases hc with hc | ⟨hc, hne⟩
        · rw [hkc] at hc; cases hc
        · have := all_there hR hil hc hm hne
          have := hn k hil
          omega
      · rw [if_neg ek]; exact ih k (by omega) hkc
    · rw [h1]
      simp only
      rw [lc_set _ _ _ hih]
      by_cases ek : k = i
      · rw [if_pos ek]
      · rw [if_neg ek]; exact ih k (by omega) hkc
    · have := all_there hR hil hc hm hne
      have := hn i hil
      omega
theorem max_nat (a b : Nat) : (if true = true then (if (a : Int) < b then (b : Int) else a) else (if (b : Int) < a then (b : Int) else a)) = ((max a b : Nat) : Int) := by
  rw [if_pos rfl]; split <;> omega
theorem loop7_18 (l : List Span) (a : List Loc) (n m i : Nat) (hi : i < l.length) (hl : l.length ≤ 48) : ∀ (d k : Nat), k + d = l.length →
    LoopTo Try.prog H (H 7) 0 (loopOf Try.prog 7 18) (mkS 176 [(0, .sl (l.map encS)), (1, goI n), (5, .sl (a.map encL)), (7, goI m), (8, goI i), (9, goI (U.there l i k)), (10, goI k)])
      (.exit 2, mkS 176 [(0, .sl (l.map encS)), (1, goI n), (5, .sl (a.map encL)), (7, goI m), (8, goI i), (9, goI (U.there l i l.length))])
  | 0, k, hd => by
    refine turnK (t7_18 l a n m i _ k _) ?_
    have hk : k = l.length := by omega
    subst hk
    rw [List.length_map, decide_eq_false (by omega)]
    exact rfl
  | d + 1, k, hd => by
    have hk : k < l.length := by omega
    have ih := loop7_18 l a n m i hi hl d (k + 1) (by omega)
    rw [there_step] at ih
    have ht := there_le l i k
    refine turnK (t7_18 l a n m i _ k _) ?_
    have hwr : IntKind.i64.wrap ((U.there l i k : Int) + 1) = ((U.there l i k + 1 : Nat) : Int) := by rw [wrap64] <;> omega
    rw [List.length_map, decide_eq_true (by omega), wrapS hk (by omega), rowS hk, getS hk, rowS hi, getS hi, hwr]
    simp only [rdI, rdB, List.getD_cons_zero, List.getD_cons_succ, int_goI, bool_goB]
    unfold U.thereAt at ih
    refine ⟨⟨by omega, by trivial⟩, ?_⟩
    cases hc : (U.sp l k).call with
    | true => rw [hc] at ih; exact ih
    | false =>
      rw [hc] at ih
      refine ⟨⟨by omega, by trivial⟩, ⟨by omega, by trivial⟩, ?_⟩
      cases h1 : decide ((U.sp l k).fr ≤ (U.sp l i).fr) with
      | false => rw [h1] at ih; exact ih
      | true =>
        rw [h1] at ih
        refine ⟨⟨by omega, by trivial⟩, ⟨by omega, by trivial⟩, ?_⟩
        cases h2 : decide ((U.sp l i).fr ≤ (U.sp l k).to) with
        | false => rw [h2] at ih; exact ih
        | true => rw [h2] at ih; exact ih
theorem scan_kind {l : List Span} {n : Nat} (hR : U.right l = true) {k : Nat} (hk : k < l.length) : ((U.sp l k).call = false ∧ ∃ r : Nat, r < n ∧ U.lc (U.scan l n) k = ⟨1, r⟩) ∨ ∃ m : Nat, U.lc (U.scan l n) k = ⟨2, m⟩ ∧ m < l.length := by
  have hv := inv_of n hR l.length (Nat.le_refl _)
  rcases hv.kind k hk with h | h
  · obtain ⟨hc, r, hr, h2, _⟩ := hv.reg k hk h
    exact .inl ⟨hc, r, hr, h2⟩
  · exact .inr h
theorem loop7_12 (l : List Span) (n : Nat) (hR : U.right l = true) : ∀ (d i : Nat), i + d = l.length →
    LoopTo Try.prog H (H 7) 0 (loopOf Try.prog 7 12) (mkS 176 [(0, .sl (l.map encS)), (1, goI n), (5, .sl ((U.scan l n).map encL)), (7, goI (U.most l i)), (8, goI i)])
      (.exit 0, mkS 176 [(0, .sl (l.map encS)), (1, goI n), (5, .sl ((U.scan l n).map encL)), (7, goI (U.most l l.length))])
  | 0, i, hd => by
    refine turnK (t7_12 l _ n _ i 0 _) ?_
    have hi : i = l.length := by omega
    subst hi
    rw [List.length_map, decide_eq_false (by omega)]
    exact rfl
  | d + 1, i, hd => by
    have hi : i < l.length := by omega
    have his : i < (U.scan l n).length := by rw [scan_len]; exact hi
    have hl := right_len hR
    have ih := loop7_12 l n hR d (i + 1) (by omega)
    have e : U.most l (i + 1) = max (U.most l i) (U.there l i l.length) := rfl
    rw [e] at ih
    have h18 := loop7_18 l (U.scan l n) n (U.most l i) i hi hl l.length 0 (by omega)
    have t0 : U.there l i 0 = 0 := rfl
    rw [t0] at h18
    refine turnK (t7_12 l _ n _ i (U.there l i l.length) _) ?_
    rw [List.length_map, decide_eq_true (by omega), wrapS hi (by omega), rowL his, getL his, rowS hi, getS hi, max_nat]
    simp only [rdI, rdB, List.getD_cons_zero, List.getD_cons_succ, int_goI, bool_goB]
    refine ⟨⟨by omega, by trivial⟩, ?_⟩
    rcases scan_kind (n := n) hR hi with ⟨hc, r, hr, hm⟩ | ⟨m, hm, hml⟩
    · rw [hc, hm]
      refine ⟨⟨by omega, by trivial⟩, ⟨by omega, by trivial⟩, ?_⟩
      simp only
      rw [decide_eq_false (show ¬ (r : Int) < 0 by omega), decide_eq_false (show ¬ (r : Int) ≥ n by omega)]
      exact ⟨⟨by omega, by trivial⟩, ⟨by omega, by trivial⟩, ⟨by omega, by trivial⟩, h18, ih⟩
    · rw [hm]
      simp only
      rw [decide_eq_false (show ¬ (m : Int) ≥ l.length by omega)]
      cases hc : (U.sp l i).call with
      | true => exact ⟨⟨by omega, by trivial⟩, ⟨by omega, by trivial⟩, ⟨by omega, by trivial⟩, ⟨by omega, by trivial⟩, ⟨by omega, by trivial⟩, h18, ih⟩
      | false => exact ⟨⟨by omega, by trivial⟩, ⟨by omega, by trivial⟩, ⟨by omega, by trivial⟩, ⟨by omega, by trivial⟩, h18, ih⟩
theorem loop7_24 (l : List Span) (n : Nat) (hR : U.right l = true) : ∀ (d i : Nat), i + d = l.length →
    LoopTo Try.prog H (H 7) 0 (loopOf Try.prog 7 24) (mkS 176 [(0, .sl (l.map encS)), (1, goI n), (5, .sl ((U.scan l n).map encL)), (7, goI (U.most l l.length)), (11, goI i)]) (.exit 4, mkS 176 [])
  | 0, i, hd => by
    refine turnK (t7_24 l _ n _ i _) ?_
    rw [List.length_map, decide_eq_false (by omega)]
    exact rfl
  | d + 1, i, hd => by
    have hi : i < l.length := by omega
    have his : i < (U.scan l n).length := by rw [scan_len]; exact hi
    have hl := right_len hR
    have ih := loop7_24 l n hR d (i + 1) (by omega)
    refine turnK (t7_24 l _ n _ i _) ?_
    rw [List.length_map, decide_eq_true (by omega)]
    by_cases hm : U.most l l.length ≤ n
    · rw [decide_eq_true (show (U.most l l.length : Int) ≤ n by omega), wrapS hi (by omega), rowL his, getL his, rowS hi, getS hi]
      simp only [rdI, rdB, List.getD_cons_zero, List.getD_cons_succ, int_goI, bool_goB]
      refine ⟨⟨by omega, by trivial⟩, ?_⟩
      cases hc : (U.sp l i).call with
      | true => exact ih
      | false =>
        have h1 : (U.lc (U.scan l n) i).k = 1 := all_regs hR (fun j hj => Nat.le_trans (most_ge l l.length j hj) hm) l.length (Nat.le_refl _) i hi hc
        rw [h1]
        exact ⟨⟨by omega, by trivial⟩, ih⟩
    · rw [decide_eq_false (show ¬ (U.most l l.length : Int) ≤ n by omega)]
      exact rfl
theorem wf7 (l : List Span) (k : Int) (hw : ∀ s ∈ l, In64 s.v) : Wf Try.prog H 7 [.sl (l.map encS), goI k] [] = some (goB true, [], []) := by
  cases hg : U.good l k with
  | false =>
    refine runK (t7 l k [] 0 _) ⟨wf8, ?_⟩
    rw [List.length_map]
    by_cases h1 : 100 < l.length
    · rw [decide_eq_true (by omega)]; exact rfl
    rw [decide_eq_false (by omega), goodR_map, hg]
    exact ⟨wf9_no l k hw (good_no hg), rfl⟩
  | true =>
    obtain ⟨n, rfl, hn, hR⟩ := good_of hg
    have hl := right_len hR
    refine runK (t7 l n ((U.scan l n).map encL) (U.most l l.length) _) ⟨wf8, ?_⟩
    have h9 := wf9 l n hw hn hR
    have h17 := wf17 l (U.scan l n) (by rw [scan_len]; omega)
    have hcl : U.clashR (l.map encS) ((U.scan l n).map encL) = false := by unfold U.clashR; rw [decS_map, decL_map]; exact no_clash n hR
    rw [no_clash n hR] at h17
    rw [List.length_map, decide_eq_false (by omega), goodR_map, hg, scanR_map, take_scan, List.length_map, scan_len, hcl, beq_self_eq_true]
    exact ⟨h9, h17, loop7_12 l n hR l.length 0 (by omega), loop7_24 l n hR l.length 0 (by omega), rfl⟩
end Go.Proofs.Ythbkemkjkpaoaac.E
