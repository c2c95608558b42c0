/- Functions, by what the evaluator asks; the theorems t.. were printed by show.txt, a program of this session. -/
import Derived.Test.Ytnmnaomfohlmcaa09h
set_option linter.unusedVariables false
set_option linter.unusedSimpArgs false
set_option maxRecDepth 100000
namespace Go.Proofs.Ytnmnaomfohlmcaa.E
open Go
def F22 : CallT := fun f args sto => match f, args, sto with
 | 35, [.agg [.sl l], .v (.int _ n)], _ => .is (.tup [.agg [.sl (U.oaR l n), .sl (U.obR l n)], goI (U.oeR l n)], [], [])
 | 36, [.sl l, .v (.int _ n)], _ => .is (.tup [goI (U.fvR l n), goI (U.feR l n)], [], [])
 | 33, [.sl l], _ => .is (.os 0 0 l.length, [.arr 1 l], [])
 | 43, [.sl l], _ => .is (.os 0 0 l.length, [.arr 2 l], [])
 | 37, [.agg [.sl l], .v (.int _ n), .agg [.os 0 0 k, .sl b]], [.arr 1 a] => .is (.agg [.os 1 0 l.length], [.dead, .arr 2 (U.stR l n a b)], [0])
 | _, _, _ => .no
namespace U
def sortR (xs : List (List AV)) : List (List AV) := (isort (xs.map fun r => rdI r 0)).map encI
end U
def encBo (b : Bool) : List AV := [goB b]
def F17 : CallT := fun f args sto => match f, args, sto with
 | 14, [.agg [.sl l]], _ => .is (goB (U.rightR l), [], [])
 | 33, [.sl l], _ => .is (.os 0 0 l.length, [.arr 1 l], [])
 | 34, _, [.arr 1 xs] => .is (.tup [], [.arr 1 (U.sortR xs)], [])
 | _, _, _ => .no
def L17 (out : List Int) : Nat → St → LT := fun id st => .is (.exit 0) (mkS 60 [(6, .os 3 0 out.length)] [.dead, .dead, .dead, .arr 1 (out.map encI)])

theorem t37b (a : List Obj) (n : Int) (x : List (List AV)) (y : List Int) (r : AV × List Row × List Nat) : (runT Try.prog H F22 L0 false 37 [hp a, goI n, AV.agg [AV.os 0 0 (List.length y), AV.sl x]] [Row.arr 1 (List.map encI y)]
  fun q => q = r) = (Wf Try.prog H 43 [AV.sl (List.map encO a)] [] =
    some (AV.os 0 0 (List.length (List.map encO a)), [Row.arr 2 (List.map encO a)], []) ∧
  (0 ≤ IntKind.wrap IntKind.i64 (n - 1) ∧
      IntKind.wrap IntKind.i64 (n - 1) < (↑(List.length (List.map encO a)) : Int) ∧
        0 + Int.toNat (IntKind.wrap IntKind.i64 (n - 1)) < List.length (List.map encO a)) ∧
    Option.map List.length (List.map encO a)[0 + Int.toNat (IntKind.wrap IntKind.i64 (n - 1))]? = some 2 ∧
      (AV.agg [AV.os 1 0 (List.length (List.map encO a))],
          [Row.dead,
            Row.arr 2
              (List.set (List.map encO a) (0 + Int.toNat (IntKind.wrap IntKind.i64 (n - 1)))
                [AV.sl (List.take (List.length y) (List.drop 0 (List.map encI y))), AV.sl x])],
          [0]) =
        r) := by kernel_rfl
theorem t22 (a : List Obj) (o : Int) (n : Int) (v : Int) (r : AV × List Row × List Nat) : (runT Try.prog H F22 L0 false 22 [hp a, goI o, goI n, goI v] [] fun q => q = r) = (Wf Try.prog H 35 [AV.agg [AV.sl (List.map encO a)], goI o] [] =
    some
      (AV.tup
          [AV.agg [AV.sl (U.oaR (List.map encO a) o), AV.sl (U.obR (List.map encO a) o)],
            goI (U.oeR (List.map encO a) o)],
        [], []) ∧
  TB (!U.oeR (List.map encO a) o == 0)
    ((AV.tup [AV.agg [AV.sl (List.map encO a)], goI (U.oeR (List.map encO a) o)], [], []) = r)
    (TB (decide (v < 0)) ((AV.tup [AV.agg [AV.sl (List.map encO a)], goI 1], [], []) = r)
      (TB (decide (v > (↑(List.length (List.map encO a)) : Int)))
        ((AV.tup [AV.agg [AV.sl (List.map encO a)], goI 1], [], []) = r)
        (Wf Try.prog H 36 [AV.sl (U.oaR (List.map encO a) o), goI n] [] =
            some
              (AV.tup [goI (U.fvR (U.oaR (List.map encO a) o) n), goI (U.feR (U.oaR (List.map encO a) o) n)], [], []) ∧
          TB (!U.feR (U.oaR (List.map encO a) o) n == 0)
            ((AV.tup [AV.agg [AV.sl (List.map encO a)], goI (U.feR (U.oaR (List.map encO a) o) n)], [], []) = r)
            (Wf Try.prog H 33 [AV.sl (U.oaR (List.map encO a) o)] [] =
                some
                  (AV.os 0 0 (List.length (U.oaR (List.map encO a) o)), [Row.arr 1 (U.oaR (List.map encO a) o)], []) ∧
              (0 ≤ n ∧
                  n < (↑(List.length (U.oaR (List.map encO a) o)) : Int) ∧
                    0 + Int.toNat n < List.length (U.oaR (List.map encO a) o)) ∧
                Option.map List.length (U.oaR (List.map encO a) o)[0 + Int.toNat n]? = some 1 ∧
                  Wf Try.prog H 37
                        [AV.agg [AV.sl (List.map encO a)], goI o,
                          AV.agg
                            [AV.os 0 0 (List.length (U.oaR (List.map encO a) o)), AV.sl (U.obR (List.map encO a) o)]]
                        [Row.arr 1 (List.set (U.oaR (List.map encO a) o) (0 + Int.toNat n) [goI v])] =
                      some
                        (AV.agg [AV.os 1 0 (List.length (List.map encO a))],
                          [Row.dead,
                            Row.arr 2
                              (U.stR (List.map encO a) o
                                (List.set (U.oaR (List.map encO a) o) (0 + Int.toNat n) [goI v])
                                (U.obR (List.map encO a) o))],
                          [0]) ∧
                    (AV.tup [AV.agg [AV.os 0 0 (List.length (List.map encO a))], goI 0],
                        [Row.arr 2
                            (U.stR (List.map encO a) o (List.set (U.oaR (List.map encO a) o) (0 + Int.toNat n) [goI v])
                              (U.obR (List.map encO a) o))],
                        []) =
                      r))))) := by kernel_rfl
theorem t17 (hs : List Obj) (l : List Int) (out : List Int) (r : AV × List Row × List Nat) : (runT Try.prog H F17 (L17 out) false 17 [hp hs, AV.sl (List.map encI l)] [] fun q => q = r) = (Wf Try.prog H 14 [AV.agg [AV.sl (List.map encO hs)]] [] = some (goB (U.rightR (List.map encO hs)), [], []) ∧
  TB (!U.rightR (List.map encO hs)) ((AV.sl [], [], []) = r)
    ((0 ≤ IntKind.wrap IntKind.i64 ((↑(List.length (List.map encO hs)) : Int) + 1) ∧
        IntKind.wrap IntKind.i64 ((↑(List.length (List.map encO hs)) : Int) + 1) ≤
            IntKind.wrap IntKind.i64 ((↑(List.length (List.map encO hs)) : Int) + 1) ∧
          IntKind.wrap IntKind.i64 ((↑(List.length (List.map encO hs)) : Int) + 1) ≤ (↑1000000 : Int)) ∧
      Wf Try.prog H 33 [AV.sl (List.map encI l)] [] =
          some (AV.os 0 0 (List.length (List.map encI l)), [Row.arr 1 (List.map encI l)], []) ∧
        LoopTo Try.prog H (H 17) 0 (loopOf Try.prog 17 6)
            (mkS 60
              [(2, AV.pt 0 0 0),
                (5,
                  AV.os 1 0
                    (List.length
                      (List.replicate
                        (Int.toNat (IntKind.wrap IntKind.i64 ((↑(List.length (List.map encO hs)) : Int) + 1)))
                        [goB false]))),
                (6, AV.os 3 0 0), (7, AV.os 2 0 (List.length (List.map encI l)))]
              [Row.box [AV.sl (List.map encO hs)],
                Row.arr 1
                  (List.replicate (Int.toNat (IntKind.wrap IntKind.i64 ((↑(List.length (List.map encO hs)) : Int) + 1)))
                    [goB false]),
                Row.arr 1 (List.map encI l), Row.arr 1 []])
            (Ex.exit 0,
              mkS 60 [(6, AV.os 3 0 (List.length out))] [Row.dead, Row.dead, Row.dead, Row.arr 1 (List.map encI out)]) ∧
          Wf Try.prog H 34 [AV.os 0 0 (List.length out)] [Row.arr 1 (List.map encI out)] =
              some (AV.tup [], [Row.arr 1 (U.sortR (List.map encI out))], []) ∧
            (AV.os 0 0 (List.length out), [Row.arr 1 (U.sortR (List.map encI out))], []) = r)) := by kernel_rfl
theorem t17_6a (hs : List Obj) (met : List Bool) (q : List Int) (out : List Int) (r : Ex × St) : (turnT Try.prog H F17 L0 false (H 17) 0 (loopOf Try.prog 17 6)
  (mkS 60
    [(2, AV.pt 0 0 0), (5, AV.os 1 0 (List.length met)), (6, AV.os 3 0 (List.length out)),
      (7, AV.os 2 0 (List.length q))]
    [Row.box [AV.sl (List.map encO hs)], Row.arr 1 (List.map encBo met), Row.arr 1 (List.map encI q),
      Row.arr 1 (List.map encI out)])
  r) = (TB (decide ((↑(List.length q) : Int) > 0))
  ((iz 0 ≤ 0 ∧ 0 < (↑(List.length q) : Int) ∧ 0 < List.length (List.map encI q)) ∧
    cutAt 1 0 (List.map encI q)[0]? = some [goI (rdI (rowAt (List.map encI q) 0) 0)] ∧
      TB (decide (rdI (rowAt (List.map encI q) 0) 0 ≤ 0))
        ((iz 0 ≤ 1 ∧ 1 ≤ (↑(List.length q) : Int)) ∧
          LoopTo Try.prog H (H 17) 0 (loopOf Try.prog 17 6)
            (mkS 60
              [(2, AV.pt 0 0 0), (5, AV.os 1 0 (List.length met)), (6, AV.os 3 0 (List.length out)),
                (7, AV.os 2 1 (List.length q - 1))]
              [Row.box [AV.sl (List.map encO hs)], Row.arr 1 (List.map encBo met), Row.arr 1 (List.map encI q),
                Row.arr 1 (List.map encI out)])
            r)
        (TB (decide (rdI (rowAt (List.map encI q) 0) 0 ≥ (↑(List.length met) : Int)))
          ((iz 0 ≤ 1 ∧ 1 ≤ (↑(List.length q) : Int)) ∧
            LoopTo Try.prog H (H 17) 0 (loopOf Try.prog 17 6)
              (mkS 60
                [(2, AV.pt 0 0 0), (5, AV.os 1 0 (List.length met)), (6, AV.os 3 0 (List.length out)),
                  (7, AV.os 2 1 (List.length q - 1))]
                [Row.box [AV.sl (List.map encO hs)], Row.arr 1 (List.map encBo met), Row.arr 1 (List.map encI q),
                  Row.arr 1 (List.map encI out)])
              r)
          ((0 ≤ rdI (rowAt (List.map encI q) 0) 0 ∧
              rdI (rowAt (List.map encI q) 0) 0 < (↑(List.length met) : Int) ∧
                0 + Int.toNat (rdI (rowAt (List.map encI q) 0) 0) < List.length (List.map encBo met)) ∧
            cutAt 1 0 (List.map encBo met)[0 + Int.toNat (rdI (rowAt (List.map encI q) 0) 0)]? =
                some [goB (rdB (rowAt (List.map encBo met) (0 + Int.toNat (rdI (rowAt (List.map encI q) 0) 0))) 0)] ∧
              TB (rdB (rowAt (List.map encBo met) (0 + Int.toNat (rdI (rowAt (List.map encI q) 0) 0))) 0)
                ((iz 0 ≤ 1 ∧ 1 ≤ (↑(List.length q) : Int)) ∧
                  LoopTo Try.prog H (H 17) 0 (loopOf Try.prog 17 6)
                    (mkS 60
                      [(2, AV.pt 0 0 0), (5, AV.os 1 0 (List.length met)), (6, AV.os 3 0 (List.length out)),
                        (7, AV.os 2 1 (List.length q - 1))]
                      [Row.box [AV.sl (List.map encO hs)], Row.arr 1 (List.map encBo met), Row.arr 1 (List.map encI q),
                        Row.arr 1 (List.map encI out)])
                    r)
                ((0 ≤ rdI (rowAt (List.map encI q) 0) 0 ∧
                    rdI (rowAt (List.map encI q) 0) 0 < (↑(List.length met) : Int) ∧
                      0 + Int.toNat (rdI (rowAt (List.map encI q) 0) 0) < List.length (List.map encBo met)) ∧
                  Option.map List.length (List.map encBo met)[0 + Int.toNat (rdI (rowAt (List.map encI q) 0) 0)]? =
                      some 1 ∧
                    true = true ∧
                      (List.length out = List.length (List.map encI out) ∧ List.length out + 1 ≤ 1000000) ∧
                        (0 ≤ IntKind.wrap IntKind.i64 (rdI (rowAt (List.map encI q) 0) 0 - 1) ∧
                            (List.map encO
                                  hs)[Int.toNat (IntKind.wrap IntKind.i64 (rdI (rowAt (List.map encI q) 0) 0 - 1))]? =
                              some
                                [AV.sl
                                    (rdL
                                      (rowAt (List.map encO hs)
                                        (Int.toNat (IntKind.wrap IntKind.i64 (rdI (rowAt (List.map encI q) 0) 0 - 1))))
                                      0),
                                  AV.sl
                                    (rdL
                                      (rowAt (List.map encO hs)
                                        (Int.toNat (IntKind.wrap IntKind.i64 (rdI (rowAt (List.map encI q) 0) 0 - 1))))
                                      1)]) ∧
                          rowsOk 1
                                (rdL
                                  (rowAt (List.map encO hs)
                                    (Int.toNat (IntKind.wrap IntKind.i64 (rdI (rowAt (List.map encI q) 0) 0 - 1))))
                                  0) =
                              true ∧
                            (List.length q = List.length (List.map encI q) ∧
                                List.length q +
                                    List.length
                                      (rdL
                                        (rowAt (List.map encO hs)
                                          (Int.toNat
                                            (IntKind.wrap IntKind.i64 (rdI (rowAt (List.map encI q) 0) 0 - 1))))
                                        0) ≤
                                  1000000) ∧
                              (iz 0 ≤ 1 ∧
                                  1 ≤
                                    (↑(List.length q +
                                          List.length
                                            (rdL
                                              (rowAt (List.map encO hs)
                                                (Int.toNat
                                                  (IntKind.wrap IntKind.i64 (rdI (rowAt (List.map encI q) 0) 0 - 1))))
                                              0)) :
                                      Int)) ∧
                                LoopTo Try.prog H (H 17) 0 (loopOf Try.prog 17 6)
                                  (mkS 60
                                    [(2, AV.pt 0 0 0), (5, AV.os 1 0 (List.length met)),
                                      (6, AV.os 3 0 (List.length out + 1)),
                                      (7,
                                        AV.os 2 1
                                          (List.length q +
                                              List.length
                                                (rdL
                                                  (rowAt (List.map encO hs)
                                                    (Int.toNat
                                                      (IntKind.wrap IntKind.i64
                                                        (rdI (rowAt (List.map encI q) 0) 0 - 1))))
                                                  0) -
                                            1))]
                                    [Row.box [AV.sl (List.map encO hs)],
                                      Row.arr 1
                                        (List.set (List.map encBo met)
                                          (0 + Int.toNat (rdI (rowAt (List.map encI q) 0) 0)) [goB true]),
                                      Row.arr 1
                                        (List.map encI q ++
                                          rdL
                                            (rowAt (List.map encO hs)
                                              (Int.toNat
                                                (IntKind.wrap IntKind.i64 (rdI (rowAt (List.map encI q) 0) 0 - 1))))
                                            0),
                                      Row.arr 1 (List.map encI out ++ [[goI (rdI (rowAt (List.map encI q) 0) 0)]])])
                                  r))))
  ((Ex.exit 0,
      mkS 60 [(6, AV.os 3 0 (List.length out))] [Row.dead, Row.dead, Row.dead, Row.arr 1 (List.map encI out)]) =
    r)) := by kernel_rfl
theorem t17_6b (hs : List Obj) (met : List Bool) (q : List Int) (out : List Int) (k : Nat) (len : Nat) (r : Ex × St) : (turnT Try.prog H F17 L0 false (H 17) 0 (loopOf Try.prog 17 6)
  (mkS 60
    [(2, AV.pt 0 0 0), (5, AV.os 1 0 (List.length met)), (6, AV.os 3 0 (List.length out)), (7, AV.os 2 (k + 1) len)]
    [Row.box [AV.sl (List.map encO hs)], Row.arr 1 (List.map encBo met), Row.arr 1 (List.map encI q),
      Row.arr 1 (List.map encI out)])
  r) = (TB (decide ((↑len : Int) > 0))
  ((iz 0 ≤ 0 ∧ 0 < (↑len : Int) ∧ k + 1 + 0 < List.length (List.map encI q)) ∧
    cutAt 1 0 (List.map encI q)[k + 1 + 0]? = some [goI (rdI (rowAt (List.map encI q) (k + 1 + 0)) 0)] ∧
      TB (decide (rdI (rowAt (List.map encI q) (k + 1 + 0)) 0 ≤ 0))
        ((iz 0 ≤ 1 ∧ 1 ≤ (↑len : Int)) ∧
          LoopTo Try.prog H (H 17) 0 (loopOf Try.prog 17 6)
            (mkS 60
              [(2, AV.pt 0 0 0), (5, AV.os 1 0 (List.length met)), (6, AV.os 3 0 (List.length out)),
                (7, AV.os 2 (k + 1 + 1) (len - 1))]
              [Row.box [AV.sl (List.map encO hs)], Row.arr 1 (List.map encBo met), Row.arr 1 (List.map encI q),
                Row.arr 1 (List.map encI out)])
            r)
        (TB (decide (rdI (rowAt (List.map encI q) (k + 1 + 0)) 0 ≥ (↑(List.length met) : Int)))
          ((iz 0 ≤ 1 ∧ 1 ≤ (↑len : Int)) ∧
            LoopTo Try.prog H (H 17) 0 (loopOf Try.prog 17 6)
              (mkS 60
                [(2, AV.pt 0 0 0), (5, AV.os 1 0 (List.length met)), (6, AV.os 3 0 (List.length out)),
                  (7, AV.os 2 (k + 1 + 1) (len - 1))]
                [Row.box [AV.sl (List.map encO hs)], Row.arr 1 (List.map encBo met), Row.arr 1 (List.map encI q),
                  Row.arr 1 (List.map encI out)])
              r)
          ((0 ≤ rdI (rowAt (List.map encI q) (k + 1 + 0)) 0 ∧
              rdI (rowAt (List.map encI q) (k + 1 + 0)) 0 < (↑(List.length met) : Int) ∧
                0 + Int.toNat (rdI (rowAt (List.map encI q) (k + 1 + 0)) 0) < List.length (List.map encBo met)) ∧
            cutAt 1 0 (List.map encBo met)[0 + Int.toNat (rdI (rowAt (List.map encI q) (k + 1 + 0)) 0)]? =
                some
                  [goB
                      (rdB (rowAt (List.map encBo met) (0 + Int.toNat (rdI (rowAt (List.map encI q) (k + 1 + 0)) 0)))
                        0)] ∧
              TB (rdB (rowAt (List.map encBo met) (0 + Int.toNat (rdI (rowAt (List.map encI q) (k + 1 + 0)) 0))) 0)
                ((iz 0 ≤ 1 ∧ 1 ≤ (↑len : Int)) ∧
                  LoopTo Try.prog H (H 17) 0 (loopOf Try.prog 17 6)
                    (mkS 60
                      [(2, AV.pt 0 0 0), (5, AV.os 1 0 (List.length met)), (6, AV.os 3 0 (List.length out)),
                        (7, AV.os 2 (k + 1 + 1) (len - 1))]
                      [Row.box [AV.sl (List.map encO hs)], Row.arr 1 (List.map encBo met), Row.arr 1 (List.map encI q),
                        Row.arr 1 (List.map encI out)])
                    r)
                ((0 ≤ rdI (rowAt (List.map encI q) (k + 1 + 0)) 0 ∧
                    rdI (rowAt (List.map encI q) (k + 1 + 0)) 0 < (↑(List.length met) : Int) ∧
                      0 + Int.toNat (rdI (rowAt (List.map encI q) (k + 1 + 0)) 0) < List.length (List.map encBo met)) ∧
                  Option.map List.length
                        (List.map encBo met)[0 + Int.toNat (rdI (rowAt (List.map encI q) (k + 1 + 0)) 0)]? =
                      some 1 ∧
                    true = true ∧
                      (List.length out = List.length (List.map encI out) ∧ List.length out + 1 ≤ 1000000) ∧
                        (0 ≤ IntKind.wrap IntKind.i64 (rdI (rowAt (List.map encI q) (k + 1 + 0)) 0 - 1) ∧
                            (List.map encO
                                  hs)[Int.toNat
                                  (IntKind.wrap IntKind.i64 (rdI (rowAt (List.map encI q) (k + 1 + 0)) 0 - 1))]? =
                              some
                                [AV.sl
                                    (rdL
                                      (rowAt (List.map encO hs)
                                        (Int.toNat
                                          (IntKind.wrap IntKind.i64 (rdI (rowAt (List.map encI q) (k + 1 + 0)) 0 - 1))))
                                      0),
                                  AV.sl
                                    (rdL
                                      (rowAt (List.map encO hs)
                                        (Int.toNat
                                          (IntKind.wrap IntKind.i64 (rdI (rowAt (List.map encI q) (k + 1 + 0)) 0 - 1))))
                                      1)]) ∧
                          rowsOk 1
                                (rdL
                                  (rowAt (List.map encO hs)
                                    (Int.toNat
                                      (IntKind.wrap IntKind.i64 (rdI (rowAt (List.map encI q) (k + 1 + 0)) 0 - 1))))
                                  0) =
                              true ∧
                            TB
                              ((↑(List.length
                                      (rdL
                                        (rowAt (List.map encO hs)
                                          (Int.toNat
                                            (IntKind.wrap IntKind.i64
                                              (rdI (rowAt (List.map encI q) (k + 1 + 0)) 0 - 1))))
                                        0)) :
                                  Int) ==
                                0)
                              (k + 1 + len = List.length (List.map encI q) ∧
                                (iz 0 ≤ 1 ∧ 1 ≤ (↑len : Int)) ∧
                                  LoopTo Try.prog H (H 17) 0 (loopOf Try.prog 17 6)
                                    (mkS 60
                                      [(2, AV.pt 0 0 0), (5, AV.os 1 0 (List.length met)),
                                        (6, AV.os 3 0 (List.length out + 1)), (7, AV.os 2 (k + 1 + 1) (len - 1))]
                                      [Row.box [AV.sl (List.map encO hs)],
                                        Row.arr 1
                                          (List.set (List.map encBo met)
                                            (0 + Int.toNat (rdI (rowAt (List.map encI q) (k + 1 + 0)) 0)) [goB true]),
                                        Row.arr 1 (List.map encI q),
                                        Row.arr 1
                                          (List.map encI out ++ [[goI (rdI (rowAt (List.map encI q) (k + 1 + 0)) 0)]])])
                                    r)
                              ((k + 1 + len = List.length (List.map encI q) ∧
                                  len +
                                      List.length
                                        (rdL
                                          (rowAt (List.map encO hs)
                                            (Int.toNat
                                              (IntKind.wrap IntKind.i64
                                                (rdI (rowAt (List.map encI q) (k + 1 + 0)) 0 - 1))))
                                          0) ≤
                                    1000000) ∧
                                (iz 0 ≤ 1 ∧
                                    1 ≤
                                      (↑(len +
                                            List.length
                                              (rdL
                                                (rowAt (List.map encO hs)
                                                  (Int.toNat
                                                    (IntKind.wrap IntKind.i64
                                                      (rdI (rowAt (List.map encI q) (k + 1 + 0)) 0 - 1))))
                                                0)) :
                                        Int)) ∧
                                  LoopTo Try.prog H (H 17) 0 (loopOf Try.prog 17 6)
                                    (mkS 60
                                      [(2, AV.pt 0 0 0), (5, AV.os 1 0 (List.length met)),
                                        (6, AV.os 3 0 (List.length out + 1)),
                                        (7,
                                          AV.os 2 1
                                            (len +
                                                List.length
                                                  (rdL
                                                    (rowAt (List.map encO hs)
                                                      (Int.toNat
                                                        (IntKind.wrap IntKind.i64
                                                          (rdI (rowAt (List.map encI q) (k + 1 + 0)) 0 - 1))))
                                                    0) -
                                              1))]
                                      [Row.box [AV.sl (List.map encO hs)],
                                        Row.arr 1
                                          (List.set (List.map encBo met)
                                            (0 + Int.toNat (rdI (rowAt (List.map encI q) (k + 1 + 0)) 0)) [goB true]),
                                        Row.arr 1
                                          (List.drop (k + 1) (List.map encI q) ++
                                            rdL
                                              (rowAt (List.map encO hs)
                                                (Int.toNat
                                                  (IntKind.wrap IntKind.i64
                                                    (rdI (rowAt (List.map encI q) (k + 1 + 0)) 0 - 1))))
                                              0),
                                        Row.arr 1
                                          (List.map encI out ++ [[goI (rdI (rowAt (List.map encI q) (k + 1 + 0)) 0)]])])
                                    r)))))
  ((Ex.exit 0,
      mkS 60 [(6, AV.os 3 0 (List.length out))] [Row.dead, Row.dead, Row.dead, Row.arr 1 (List.map encI out)]) =
    r)) := by kernel_rfl
theorem wf37b (a : List Obj) (n : Int) (x y : List Int) (hl : a.length < 1000000) (h1 : 1 ≤ n) (h2 : n ≤ a.length) : Wf Try.prog H 37 [hp a, goI n, .agg [.os 0 0 (y.map encI).length, .sl (x.map encI)]] [.arr 1 (y.map encI)] = some (.agg [.os 1 0 (a.map encO).length], [.dead, .arr 2 ((a.set (n - 1).toNat ⟨y, x⟩).map encO)], [0]) := by
  rw [List.length_map (f := encI)]
  refine runK (t37b a n (x.map encI) y _) ?_
  have hwr : IntKind.i64.wrap (n - 1) = n - 1 := by rw [wrap64] <;> omega
  have hi : (n - 1).toNat < a.length := by omega
  rw [hwr, Nat.zero_add, take_map encI y, getO hi]
  have e : (a.map encO).set (n - 1).toNat [.sl (y.map encI), .sl (x.map encI)] = (a.set (n - 1).toNat ⟨y, x⟩).map encO := set_map encO a _ ⟨y, x⟩
  rw [e]
  refine ⟨wf43 a hl, ⟨by omega, by rw [List.length_map]; omega, by rw [List.length_map]; omega⟩, rfl, rfl⟩
namespace U
/-- What a link comes to: its error, its heap. -/
def ke (a : List Obj) (o n v : Int) : Int := if oe a o = 0 then if v < 0 ∨ v > a.length then 1 else fe (oo a o).refs n else oe a o
def linked (a : List Obj) (o n v : Int) : List Obj := a.set (o - 1).toNat ⟨(oo a o).refs.set n.toNat v, (oo a o).ints⟩
end U
theorem wf22_no (a : List Obj) (o n v : Int) (hl : Short a) (h : U.ke a o n v ≠ 0) : Wf Try.prog H 22 [hp a, goI o, goI n, goI v] [] = some (.tup [hp a, goI (U.ke a o n v)], [], []) := by
  refine runK (t22 a o n v _) ?_
  rw [oaR_map, obR_map, oeR_map, fvR_map, feR_map]
  refine ⟨wf35 a o hl, ?_⟩
  unfold U.ke at h ⊢
  by_cases h0 : U.oe a o = 0
  · rw [if_pos h0] at h ⊢
    rw [beq_iff_eq.2 h0, List.length_map]
    by_cases h1 : v < 0
    · rw [decide_eq_true h1, if_pos (.inl h1)]; exact rfl
    rw [decide_eq_false h1]
    by_cases h2 : v > a.length
    · rw [decide_eq_true h2, if_pos (.inr h2)]; exact rfl
    rw [decide_eq_false h2]
    rw [if_neg (fun q => q.elim h1 h2)] at h ⊢
    rw [beq_eq_false_iff_ne.2 h]
    exact ⟨wf36 _ n, rfl⟩
  · rw [if_neg h0, beq_eq_false_iff_ne.2 h0]; exact rfl
theorem ke_zero {a : List Obj} {o n v : Int} (h : U.ke a o n v = 0) : U.oe a o = 0 ∧ 0 ≤ v ∧ v ≤ a.length ∧ U.fe (U.oo a o).refs n = 0 := by
  unfold U.ke at h
  by_cases h0 : U.oe a o = 0
  · rw [if_pos h0] at h
    by_cases h1 : v < 0 ∨ v > a.length
    · rw [if_pos h1] at h; cases h
    · rw [if_neg h1] at h
      exact ⟨h0, by omega, by omega, h⟩
  · rw [if_neg h0] at h; exact absurd h h0
theorem refs8 {a : List Obj} (hr : U.right a = true) {x : Obj} (hx : x ∈ a) : x.refs.length ≤ 8 ∧ x.ints.length ≤ 8 := by
  have hb := (right_iff a).1 hr _ hx
  unfold U.badOb U.badO at hb
  simp only [Bool.or_eq_false_iff, decide_eq_false_iff_not, List.length_map] at hb
  omega
theorem wf22 (a : List Obj) (o n v : Int) (hl : Short a) (h : U.ke a o n v = 0) : Wf Try.prog H 22 [hp a, goI o, goI n, goI v] [] = some (.tup [.agg [.os 0 0 a.length], goI 0], [.arr 2 ((U.linked a o n v).map encO)], []) := by
  obtain ⟨h0, v1, v2, hf⟩ := ke_zero h
  obtain ⟨hr, o1, o2, eo⟩ := oe_zero h0
  obtain ⟨n1, n2⟩ := fe_zero hf
  have hmem : U.oo a o ∈ a := by rw [eo]; exact ob_mem (by omega)
  have hsh : (U.oo a o).refs.length < 1000000 := by
    have hb := refs8 hr hmem
    omega
  refine runK (t22 a o n v _) ?_
  rw [oaR_map, obR_map, oeR_map, fvR_map, feR_map, h0, hf]
  have hni : n.toNat < (U.oo a o).refs.length := by omega
  have e1 : ((U.oo a o).refs.map encI).set (0 + n.toNat) [goI v] = ((U.oo a o).refs.set n.toNat v).map encI := by rw [Nat.zero_add]; exact set_mapI _ _ _
  have h37 := wf37b a o (U.oo a o).ints ((U.oo a o).refs.set n.toNat v) hl.1 o1 o2
  have es : U.stR (a.map encO) o (((U.oo a o).refs.set n.toNat v).map encI) ((U.oo a o).ints.map encI) = (U.linked a o n v).map encO := by
    unfold U.stR U.linked
    exact set_map encO a (o - 1).toNat ⟨(U.oo a o).refs.set n.toNat v, (U.oo a o).ints⟩
  have el : (((U.oo a o).refs.set n.toNat v).map encI).length = ((U.oo a o).refs.map encI).length := by simp
  have h36 := wf36 (U.oo a o).refs n
  have h35 := wf35 a o hl
  rw [hf] at h36
  rw [h0] at h35
  rw [e1, es]
  rw [el] at h37
  have w1 : decide (v < 0) = false := decide_eq_false (by omega)
  have w2 : decide (v > (a.map encO).length) = false := decide_eq_false (by rw [List.length_map]; omega)
  rw [w1, w2]
  refine ⟨h35, h36, wf33 _ hsh, ⟨by omega, by rw [List.length_map]; omega, by rw [List.length_map]; omega⟩, by rw [Nat.zero_add, getI hni]; rfl, h37, ?_⟩
  rw [List.length_map]
/-- What is met is what was put out. -/
structure MetOk (n : Nat) (met : List Bool) (out : List Int) : Prop where
  len : met.length = n + 1
  iff : ∀ i, i < met.length → met.getD i default = decide ((i : Int) ∈ out)
theorem MetOk.set {n : Nat} {met : List Bool} {out : List Int} (h : MetOk n met out) {o : Int} (hv : Val n o) : MetOk n (met.set o.toNat true) (out ++ [o]) := by
  obtain ⟨v1, v2⟩ := hv
  refine ⟨by rw [List.length_set]; exact h.len, fun i hi => ?_⟩
  rw [List.length_set] at hi
  have hl := h.len
  rw [getD_set met o.toNat i true (by omega)]
  by_cases e : i = o.toNat
  · rw [if_pos e]
    exact (decide_eq_true (by rw [show (i : Int) = o by omega]; simp)).symm
  · rw [if_neg e, h.iff i hi]
    have : ((i : Int) ∈ out) ↔ ((i : Int) ∈ out ++ [o]) := by
      simp only [List.mem_append, List.mem_singleton]
      constructor
      · exact .inl
      · rintro (q | q)
        · exact q
        · omega
    exact decide_eq_decide.2 this
theorem MetOk.zero (n : Nat) : MetOk n (List.replicate (n + 1) false) [] :=
  ⟨by simp, fun i hi => by
    rw [List.length_replicate] at hi
    simp [List.getD, hi]⟩
def qst (hs : List Obj) (met : List Bool) (q out : List Int) (off : Nat) : St :=
  mkS 60 [(2, .pt 0 0 0), (5, .os 1 0 met.length), (6, .os 3 0 out.length), (7, .os 2 off (q.length - off))] [.box [.sl (hs.map encO)], .arr 1 (met.map encBo), .arr 1 (q.map encI), .arr 1 (out.map encI)]
namespace U
/-- The queue behind its first one, with what that one leads to. -/
def q2 (q refs : List Int) : Nat → List Int × Nat
  | 0 => (q ++ refs, 1)
  | k + 1 => if refs.length = 0 then (q, k + 1 + 1) else (q.drop (k + 1) ++ refs, 1)
end U
theorem q2_drop (q refs : List Int) : ∀ off, off < q.length → (U.q2 q refs off).1.drop (U.q2 q refs off).2 = q.drop (off + 1) ++ refs ∧ (U.q2 q refs off).2 ≤ (U.q2 q refs off).1.length
  | 0, h => ⟨by show (q ++ refs).drop 1 = _; rw [List.drop_append_of_le_length (by omega)], by show 1 ≤ (q ++ refs).length; rw [List.length_append]; omega⟩
  | k + 1, h => by
    have e0 : U.q2 q refs (k + 1) = if refs.length = 0 then (q, k + 1 + 1) else (q.drop (k + 1) ++ refs, 1) := rfl
    rw [e0]
    by_cases h5 : refs.length = 0
    · rw [if_pos h5]
      exact ⟨by rw [List.eq_nil_of_length_eq_zero h5, List.append_nil], by show k + 1 + 1 ≤ q.length; omega⟩
    · rw [if_neg h5]
      exact ⟨by show (q.drop (k + 1) ++ refs).drop 1 = _; rw [List.drop_append_of_le_length (by rw [List.length_drop]; omega), List.drop_drop], by show 1 ≤ (q.drop (k + 1) ++ refs).length; rw [List.length_append, List.length_drop]; omega⟩
theorem lens_le {n : Nat} {out : List Int} (h1 : ∀ x ∈ out, Val n x) (h2 : out.Nodup) : out.length ≤ n := by
  have := len_of_cover h2 (b := (List.range n).map fun (i : Nat) => (i : Int) + 1) (fun x hx => by
    obtain ⟨a, b⟩ := h1 x hx
    exact List.mem_map.2 ⟨(x - 1).toNat, List.mem_range.2 (by omega), by omega⟩)
  simpa using this
theorem step17 {hs : List Obj} (hr : U.right hs = true) (hl : hs.length ≤ 1000) {met : List Bool} {q out : List Int} {off : Nat} {r : Ex × St} (hm : MetOk hs.length met out) (ho : out.length ≤ 1000) (hq : off ≤ q.length) (hq2 : q.length - off ≤ 100000)
    (hend : off = q.length → (Ex.exit 0, mkS 60 [(6, .os 3 0 out.length)] [.dead, .dead, .dead, .arr 1 (out.map encI)]) = r)
    (hskip : off < q.length → ¬ Val hs.length (U.nt q off) ∨ U.nt q off ∈ out → LoopTo Try.prog H (H 17) 0 (loopOf Try.prog 17 6) (qst hs met q out (off + 1)) r)
    (htake : off < q.length → Val hs.length (U.nt q off) → U.nt q off ∉ out → LoopTo Try.prog H (H 17) 0 (loopOf Try.prog 17 6) (qst hs (met.set (U.nt q off).toNat true) (U.q2 q (U.refsAt hs (U.nt q off)) off).1 (out ++ [U.nt q off]) (U.q2 q (U.refsAt hs (U.nt q off)) off).2) r) :
    LoopTo Try.prog H (H 17) 0 (loopOf Try.prog 17 6) (qst hs met q out off) r := by
  have hml := hm.len
  have eb : ∀ o : Int, Val hs.length o → rdB (rowAt (met.map encBo) (0 + o.toNat)) 0 = decide (o ∈ out) ∧ (met.map encBo)[0 + o.toNat]? = some [goB (decide (o ∈ out))] := fun o hv => by
    obtain ⟨v1, v2⟩ := hv
    have hi : o.toNat < met.length := by omega
    have e := hm.iff o.toNat hi
    rw [show ((o.toNat : Nat) : Int) = o by omega] at e
    have e1 : rowAt (met.map encBo) o.toNat = encBo (met.getD o.toNat default) := rowAt_map hi
    have e2 : (met.map encBo)[o.toNat]? = some (encBo (met.getD o.toNat default)) := rows_map hi
    rw [Nat.zero_add, e1, e2, e]
    exact ⟨rfl, rfl⟩
  have er : ∀ o : Int, Val hs.length o → IntKind.i64.wrap (o - 1) = o - 1 ∧ rdL (rowAt (hs.map encO) (o - 1).toNat) 0 = (U.refsAt hs o).map encI ∧ (hs.map encO)[(o - 1).toNat]? = some [.sl ((U.refsAt hs o).map encI), .sl (rdL (rowAt (hs.map encO) (o - 1).toNat) 1)] ∧ (U.refsAt hs o).length ≤ 8 := fun o hv => by
    obtain ⟨v1, v2⟩ := hv
    have hi : (o - 1).toNat < hs.length := by omega
    have e1 := rowO hi
    rw [getO hi, e1]
    exact ⟨by rw [wrap64] <;> omega, rfl, rfl, (refs8 hr (ob_mem hi)).1⟩
  have elen : ∀ o : Int, ((U.refsAt hs o).map encI).length = (U.refsAt hs o).length := fun o => List.length_map _
  have es : ∀ o : Int, (met.map encBo).set (0 + o.toNat) [goB true] = (met.set o.toNat true).map encBo := fun o => by
    rw [Nat.zero_add]; exact set_map encBo met o.toNat true
  cases off with
  | zero =>
    refine turnK (t17_6a hs met q out _) ?_
    by_cases h0 : 0 = q.length
    · rw [decide_eq_false (by omega)]; exact hend h0
    have h1 : 0 < q.length := by omega
    have e : rdI (rowAt (q.map encI) 0) 0 = U.nt q 0 := by rw [rowI h1]; rfl
    have hskip := hskip h1
    have htake := htake h1
    rw [decide_eq_true (by omega), e, getI h1]
    generalize U.nt q 0 = o at *
    refine ⟨⟨by decide, by omega, by rw [List.length_map]; omega⟩, rfl, ?_⟩
    by_cases h2 : o ≤ 0
    · rw [decide_eq_true h2]; exact ⟨⟨by decide, by omega⟩, hskip (.inl fun v => by have := v.1; omega)⟩
    rw [decide_eq_false h2]
    by_cases h3 : o ≥ (met.length : Int)
    · rw [decide_eq_true h3]; exact ⟨⟨by decide, by omega⟩, hskip (.inl fun v => by have := v.2; omega)⟩
    rw [decide_eq_false h3]
    have hv : Val hs.length o := ⟨by omega, by omega⟩
    obtain ⟨b1, b2⟩ := eb o hv
    obtain ⟨r1, r2, r3, r4⟩ := er o hv
    rw [b1, b2]
    refine ⟨⟨by omega, by omega, by rw [List.length_map]; omega⟩, rfl, ?_⟩
    by_cases h4 : o ∈ out
    · rw [decide_eq_true h4]; exact ⟨⟨by decide, by omega⟩, hskip (.inr h4)⟩
    rw [decide_eq_false h4, r1, r2, r3, es]
    refine ⟨⟨by omega, by omega, by rw [List.length_map]; omega⟩, rfl, rfl, ⟨by rw [List.length_map], by omega⟩, ⟨by omega, rfl⟩, rowsOk_of (enc := encI) (s := 1) (fun _ => rfl) _, ⟨by rw [List.length_map], by rw [List.length_map]; omega⟩, ⟨by decide, by omega⟩, ?_⟩
    have := htake hv h4
    unfold qst U.q2 at this
    simp only at this
    rw [List.length_append, List.length_append, List.map_append, List.map_append, List.length_set] at this
    rw [List.length_map]
    exact this
  | succ k =>
    refine turnK (t17_6b hs met q out k (q.length - (k + 1)) _) ?_
    by_cases h0 : k + 1 = q.length
    · rw [decide_eq_false (by omega)]; exact hend h0
    have h1 : k + 1 < q.length := by omega
    have e : rdI (rowAt (q.map encI) (k + 1 + 0)) 0 = U.nt q (k + 1) := by rw [rowI h1]; rfl
    have hskip := hskip h1
    have htake := htake h1
    have e5 : q.length - (k + 1) - 1 = q.length - (k + 1 + 1) := by omega
    rw [decide_eq_true (by omega), e, getI h1, e5]
    generalize U.nt q (k + 1) = o at *
    refine ⟨⟨by decide, by omega, by rw [List.length_map]; omega⟩, rfl, ?_⟩
    by_cases h2 : o ≤ 0
    · rw [decide_eq_true h2]; exact ⟨⟨by decide, by omega⟩, hskip (.inl fun v => by have := v.1; omega)⟩
    rw [decide_eq_false h2]
    by_cases h3 : o ≥ (met.length : Int)
    · rw [decide_eq_true h3]; exact ⟨⟨by decide, by omega⟩, hskip (.inl fun v => by have := v.2; omega)⟩
    rw [decide_eq_false h3]
    have hv : Val hs.length o := ⟨by omega, by omega⟩
    obtain ⟨b1, b2⟩ := eb o hv
    obtain ⟨r1, r2, r3, r4⟩ := er o hv
    rw [b1, b2]
    refine ⟨⟨by omega, by omega, by rw [List.length_map]; omega⟩, rfl, ?_⟩
    by_cases h4 : o ∈ out
    · rw [decide_eq_true h4]; exact ⟨⟨by decide, by omega⟩, hskip (.inr h4)⟩
    rw [decide_eq_false h4, r1, r2, r3, es, elen o]
    refine ⟨⟨by omega, by omega, by rw [List.length_map]; omega⟩, rfl, rfl, ⟨by rw [List.length_map], by omega⟩, ⟨by omega, rfl⟩, rowsOk_of (enc := encI) (s := 1) (fun _ => rfl) _, ?_⟩
    by_cases h5 : (U.refsAt hs o).length = 0
    · rw [beq_iff_eq.2 (show ((U.refsAt hs o).length : Int) = 0 by omega)]
      refine ⟨by rw [List.length_map]; omega, ⟨by decide, by omega⟩, ?_⟩
      have := htake hv h4
      have e0 : U.q2 q (U.refsAt hs o) (k + 1) = (q, k + 1 + 1) := if_pos h5
      unfold qst at this
      rw [e0] at this
      simp only at this
      rw [List.length_append, List.map_append, List.length_set] at this
      exact this
    · rw [beq_eq_false_iff_ne.2 (show ((U.refsAt hs o).length : Int) ≠ 0 by omega)]
      refine ⟨⟨by rw [List.length_map]; omega, by omega⟩, ⟨by decide, by omega⟩, ?_⟩
      have := htake hv h4
      have e0 : U.q2 q (U.refsAt hs o) (k + 1) = (q.drop (k + 1) ++ U.refsAt hs o, 1) := if_neg h5
      unfold qst at this
      rw [e0] at this
      simp only at this
      rw [List.length_append, List.length_append, List.map_append, List.map_append, List.length_set, List.length_drop, List.map_drop] at this
      exact this
theorem loop17_6 {hs : List Obj} (hr : U.right hs = true) (hl : hs.length ≤ 1000) : ∀ (d : Nat) (met : List Bool) (q out : List Int) (off : Nat), d ≤ 100000 → off ≤ q.length → 9 * (hs.length - out.length) + (q.length - off) ≤ d → MetOk hs.length met out → (∀ x ∈ out, Val hs.length x) → out.Nodup →
    ∃ out', BfsTo hs out (q.drop off) out' ∧ LoopTo Try.prog H (H 17) 0 (loopOf Try.prog 17 6) (qst hs met q out off) (.exit 0, mkS 60 [(6, .os 3 0 out'.length)] [.dead, .dead, .dead, .arr 1 (out'.map encI)]) := by
  intro d
  induction d with
  | zero =>
    intro met q out off hd hq hu hm hv hn
    have e : off = q.length := by omega
    have ho := lens_le hv hn
    refine ⟨out, by rw [e, List.drop_length]; exact BfsTo.nil hv hn, step17 hr hl hm (by omega) hq (by omega) (fun _ => rfl) (fun h => by omega) (fun h => by omega)⟩
  | succ d ih =>
    intro met q out off hd hq hu hm hv hn
    have ho := lens_le hv hn
    by_cases h0 : off = q.length
    · refine ⟨out, by rw [h0, List.drop_length]; exact BfsTo.nil hv hn, step17 hr hl hm (by omega) hq (by omega) (fun _ => rfl) (fun h => by omega) (fun h => by omega)⟩
    have h1 : off < q.length := by omega
    have hdr : q.drop off = U.nt q off :: q.drop (off + 1) := drop_cons' q h1
    haveI : Decidable (Val hs.length (U.nt q off)) := inferInstanceAs (Decidable (_ ∧ _))
    by_cases hs1 : ¬ Val hs.length (U.nt q off) ∨ U.nt q off ∈ out
    · obtain ⟨out', b1, b2⟩ := ih met q out (off + 1) (by omega) (by omega) (by omega) hm hv hn
      refine ⟨out', by rw [hdr]; exact b1.skip hs1, step17 hr hl hm (by omega) hq (by omega) (fun h => by omega) (fun _ _ => b2) (fun _ hv' hno => absurd hs1 (fun q => q.elim (fun h => h hv') hno))⟩
    · have hv' : Val hs.length (U.nt q off) := Decidable.byContradiction fun h => hs1 (.inl h)
      have hno : U.nt q off ∉ out := fun h => hs1 (.inr h)
      have hlt := met_lt hv hn hv' hno
      obtain ⟨q3, q4⟩ := q2_drop q (U.refsAt hs (U.nt q off)) off h1
      have h8 : (U.refsAt hs (U.nt q off)).length ≤ 8 := (refs8 hr (ob_mem (by have := hv'.1; have := hv'.2; omega))).1
      have hlen : (U.q2 q (U.refsAt hs (U.nt q off)) off).1.length - (U.q2 q (U.refsAt hs (U.nt q off)) off).2 = q.length - (off + 1) + (U.refsAt hs (U.nt q off)).length := by
        rw [← List.length_drop, q3, List.length_append, List.length_drop]
      obtain ⟨out', b1, b2⟩ := ih (met.set (U.nt q off).toNat true) _ (out ++ [U.nt q off]) _ (by omega) q4 (by rw [hlen, List.length_append]; show 9 * (hs.length - (out.length + 1)) + _ ≤ d; omega) (hm.set hv') (fun x hx => by
        rcases List.mem_append.1 hx with hx | hx
        · exact hv x hx
        · rw [List.mem_singleton.1 hx]; exact hv') (List.nodup_append.2 ⟨hn, by simp, fun a ha b hb e => hno (by rw [← List.mem_singleton.1 hb, ← e]; exact ha)⟩)
      rw [q3] at b1
      refine ⟨out', by rw [hdr]; exact b1.take hv', step17 hr hl hm (by omega) hq (by omega) (fun h => by omega) (fun _ h => absurd h hs1) (fun _ _ _ => b2)⟩
theorem sortR_map (xs : List Int) : U.sortR (xs.map encI) = (U.isort xs).map encI := by unfold U.sortR; rw [decI1]
theorem wf34 (xs : List Int) (h : xs.length < 1000000) : Wf Try.prog H 34 [.os 0 0 xs.length] [.arr 1 (xs.map encI)] = some (.tup [], [.arr 1 ((U.isort xs).map encI)], []) :=
  Wf_prim (p := sortP) (by rfl) (by
    unfold sortP
    simp only [List.getElem?_cons_zero]
    rw [if_pos ⟨by rw [List.length_map], by rw [List.length_map]; exact h⟩, intL_map]
    rfl)
theorem wf17 {hs : List Obj} (hr : U.right hs = true) (hl : hs.length ≤ 1000) (l : List Int) (hll : l.length ≤ 1000) :
    ∃ out, BfsTo hs [] l out ∧ Wf Try.prog H 17 [hp hs, .sl (l.map encI)] [] = some (.os 0 0 out.length, [.arr 1 ((U.isort out).map encI)], []) := by
  obtain ⟨out, b1, b2⟩ := loop17_6 hr hl 10000 (List.replicate (hs.length + 1) false) l [] 0 (by omega) (by omega) (by simp; omega) (MetOk.zero _) (by simp) (by simp)
  rw [List.drop_zero] at b1
  refine ⟨out, b1, ?_⟩
  have ho := lens_le b1.val b1.nodup
  refine runK (t17 hs l out _) ?_
  have h14 := wf14 hs (by omega)
  have er : U.rightR (hs.map encO) = U.right hs := by unfold U.rightR; rw [decO_map]
  have ew : IntKind.i64.wrap (((hs.map encO).length : Int) + 1) = ((hs.length + 1 : Nat) : Int) := by rw [List.length_map, wrapS (Nat.lt_succ_self _) (by omega)]
  rw [er, hr, ew, sortR_map, Int.toNat_natCast]
  unfold qst at b2
  rw [List.map_replicate, List.length_replicate] at b2
  refine ⟨by rw [← hr]; exact h14, ⟨by omega, by omega, by omega⟩, wf33 l (by omega), ?_, wf34 out (by omega), rfl⟩
  rw [List.length_map, List.length_replicate]
  exact b2
theorem wf17_no {hs : List Obj} (hr : U.right hs = false) (hl : hs.length < 1000000) (l out : List Int) : Wf Try.prog H 17 [hp hs, .sl (l.map encI)] [] = some (.sl [], [], []) := by
  refine runK (t17 hs l out _) ?_
  have h14 := wf14 hs hl
  have er : U.rightR (hs.map encO) = U.right hs := by unfold U.rightR; rw [decO_map]
  rw [er, hr]
  exact ⟨by rw [← hr]; exact h14, rfl⟩
end Go.Proofs.Ytnmnaomfohlmcaa.E
