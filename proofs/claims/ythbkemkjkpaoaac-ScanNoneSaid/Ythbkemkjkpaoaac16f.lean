/- Functions, by what the evaluator asks; the theorems t.. were printed by show.txt, a program of this session. -/
import Derived.Test.Ythbkemkjkpaoaac16e
set_option linter.unusedVariables false
set_option linter.unusedSimpArgs false
set_option maxRecDepth 100000
namespace Go.Proofs.Ythbkemkjkpaoaac.E
open Go
namespace U
def okAt (l : List Span) (i : Nat) : Bool := decide (0 ≤ (sp l i).fr) && (decide ((sp l i).fr ≤ (sp l i).to) && decide ((sp l i).to ≤ 1099511627776))
def newFrom (l : List Span) (i k : Nat) : Bool := allFrom (fun k => !(decide ((sp l k).v = (sp l i).v))) k i
def riseAt (l : List Span) (i : Nat) : Bool := decide (i = 0) || rise (sp l (i - 1)) (sp l i)
def rightAt (l : List Span) (i : Nat) : Bool := okAt l i && (riseAt l i && newFrom l i 0)
def rightFrom (l : List Span) (i : Nat) : Bool := allFrom (rightAt l) i l.length
def riseR (a b c : Int) (d : Bool) (a' b' c' : Int) (d' : Bool) : Bool := rise ⟨a, b, c, d⟩ ⟨a', b', c', d'⟩
end U
def F22 : CallT := fun f args sto => match f, args with
 | 22, [.agg [.v (.int _ a), .v (.int _ b), .v (.int _ c), .v (.bool d)], .agg [.v (.int _ a'), .v (.int _ b'), .v (.int _ c'), .v (.bool d')]] => .is (goB (U.riseR a b c d a' b' c' d'), [], [])
 | _, _ => .no
def L13 (b : Bool) : Nat → St → LT := fun id st => .by b (.is (.exit 0) (mkS 101 [])) (.is .ret (mkS 101 [(2, goB false)]))
def L134 (l : List Span) (i : Nat) (b : Bool) : Nat → St → LT := fun id st => .by b (.is (.exit 2) (mkS 101 [(0, .sl (l.map encS)), (3, goI i)])) (.is .ret (mkS 101 [(2, goB false)]))
def L12 (b : Bool) : Nat → St → LT := fun id st => .by b (.is (.exit 0) (mkS 56 [] [.dead, .dead])) (.is .ret (mkS 56 [(2, goB false)] [.dead, .dead]))

theorem t13 (l : List Span) (b : Bool) (r : AV × List Row × List Nat) : (runT Try.prog H (fun f args sto => CT.of (F0 f args sto)) (L13 b) false 13 [AV.sl (List.map encS l)] [] fun q => q = r) = (TB (decide ((↑(List.length (List.map encS l)) : Int) > 48)) ((goB false, [], []) = r)
  (TB b
    (LoopTo Try.prog H (H 13) 0 (loopOf Try.prog 13 4) (mkS 101 [(0, AV.sl (List.map encS l)), (3, goI 0)])
        (Ex.exit 0, mkS 101 []) ∧
      (goB true, [], []) = r)
    (LoopTo Try.prog H (H 13) 0 (loopOf Try.prog 13 4) (mkS 101 [(0, AV.sl (List.map encS l)), (3, goI 0)])
        (Ex.ret, mkS 101 [(2, goB false)]) ∧
      (goB false, [], []) = r))) := by kernel_rfl
theorem t13_4 (l : List Span) (i : Nat) (b : Bool) (r : Ex × St) : (turnT Try.prog H (fun f args sto => CT.of (F0 f args sto)) (L134 l i b) false (H 13) 0 (loopOf Try.prog 13 4)
  (mkS 101 [(0, AV.sl (List.map encS l)), (3, goI (↑i : Int))]) r) = (TB (decide ((↑i : Int) < (↑(List.length (List.map encS l)) : Int)))
  ((0 ≤ (↑i : Int) ∧
      (List.map encS l)[i]? =
        some
          [goI (rdI (rowAt (List.map encS l) i) 0), goI (rdI (rowAt (List.map encS l) i) 1),
            goI (rdI (rowAt (List.map encS l) i) 2), goB (rdB (rowAt (List.map encS l) i) 3)]) ∧
    TB (decide (rdI (rowAt (List.map encS l) i) 1 < 0)) ((Ex.ret, mkS 101 [(2, goB false)]) = r)
      ((0 ≤ (↑i : Int) ∧
          (List.map encS l)[i]? =
            some
              [goI (rdI (rowAt (List.map encS l) i) 0), goI (rdI (rowAt (List.map encS l) i) 1),
                goI (rdI (rowAt (List.map encS l) i) 2), goB (rdB (rowAt (List.map encS l) i) 3)]) ∧
        (0 ≤ (↑i : Int) ∧
            (List.map encS l)[i]? =
              some
                [goI (rdI (rowAt (List.map encS l) i) 0), goI (rdI (rowAt (List.map encS l) i) 1),
                  goI (rdI (rowAt (List.map encS l) i) 2), goB (rdB (rowAt (List.map encS l) i) 3)]) ∧
          TB (decide (rdI (rowAt (List.map encS l) i) 1 > rdI (rowAt (List.map encS l) i) 2))
            ((Ex.ret, mkS 101 [(2, goB false)]) = r)
            ((0 ≤ (↑i : Int) ∧
                (List.map encS l)[i]? =
                  some
                    [goI (rdI (rowAt (List.map encS l) i) 0), goI (rdI (rowAt (List.map encS l) i) 1),
                      goI (rdI (rowAt (List.map encS l) i) 2), goB (rdB (rowAt (List.map encS l) i) 3)]) ∧
              TB (decide (rdI (rowAt (List.map encS l) i) 2 > 1099511627776)) ((Ex.ret, mkS 101 [(2, goB false)]) = r)
                (TB (decide ((↑i : Int) > 0))
                  ((0 ≤ IntKind.wrap IntKind.i64 ((↑i : Int) - 1) ∧
                      (List.map encS l)[Int.toNat (IntKind.wrap IntKind.i64 ((↑i : Int) - 1))]? =
                        some
                          [goI
                              (rdI (rowAt (List.map encS l) (Int.toNat (IntKind.wrap IntKind.i64 ((↑i : Int) - 1)))) 0),
                            goI
                              (rdI (rowAt (List.map encS l) (Int.toNat (IntKind.wrap IntKind.i64 ((↑i : Int) - 1)))) 1),
                            goI
                              (rdI (rowAt (List.map encS l) (Int.toNat (IntKind.wrap IntKind.i64 ((↑i : Int) - 1)))) 2),
                            goB
                              (rdB (rowAt (List.map encS l) (Int.toNat (IntKind.wrap IntKind.i64 ((↑i : Int) - 1))))
                                3)]) ∧
                    (0 ≤ (↑i : Int) ∧
                        (List.map encS l)[i]? =
                          some
                            [goI (rdI (rowAt (List.map encS l) i) 0), goI (rdI (rowAt (List.map encS l) i) 1),
                              goI (rdI (rowAt (List.map encS l) i) 2), goB (rdB (rowAt (List.map encS l) i) 3)]) ∧
                      TB
                        (decide
                          (rdI (rowAt (List.map encS l) (Int.toNat (IntKind.wrap IntKind.i64 ((↑i : Int) - 1)))) 1 >
                            rdI (rowAt (List.map encS l) i) 1))
                        ((Ex.ret, mkS 101 [(2, goB false)]) = r)
                        ((0 ≤ IntKind.wrap IntKind.i64 ((↑i : Int) - 1) ∧
                            (List.map encS l)[Int.toNat (IntKind.wrap IntKind.i64 ((↑i : Int) - 1))]? =
                              some
                                [goI
                                    (rdI
                                      (rowAt (List.map encS l) (Int.toNat (IntKind.wrap IntKind.i64 ((↑i : Int) - 1))))
                                      0),
                                  goI
                                    (rdI
                                      (rowAt (List.map encS l) (Int.toNat (IntKind.wrap IntKind.i64 ((↑i : Int) - 1))))
                                      1),
                                  goI
                                    (rdI
                                      (rowAt (List.map encS l) (Int.toNat (IntKind.wrap IntKind.i64 ((↑i : Int) - 1))))
                                      2),
                                  goB
                                    (rdB
                                      (rowAt (List.map encS l) (Int.toNat (IntKind.wrap IntKind.i64 ((↑i : Int) - 1))))
                                      3)]) ∧
                          (0 ≤ (↑i : Int) ∧
                              (List.map encS l)[i]? =
                                some
                                  [goI (rdI (rowAt (List.map encS l) i) 0), goI (rdI (rowAt (List.map encS l) i) 1),
                                    goI (rdI (rowAt (List.map encS l) i) 2), goB (rdB (rowAt (List.map encS l) i) 3)]) ∧
                            TB
                              (rdI (rowAt (List.map encS l) (Int.toNat (IntKind.wrap IntKind.i64 ((↑i : Int) - 1))))
                                  1 ==
                                rdI (rowAt (List.map encS l) i) 1)
                              ((0 ≤ IntKind.wrap IntKind.i64 ((↑i : Int) - 1) ∧
                                  (List.map encS l)[Int.toNat (IntKind.wrap IntKind.i64 ((↑i : Int) - 1))]? =
                                    some
                                      [goI
                                          (rdI
                                            (rowAt (List.map encS l)
                                              (Int.toNat (IntKind.wrap IntKind.i64 ((↑i : Int) - 1))))
                                            0),
                                        goI
                                          (rdI
                                            (rowAt (List.map encS l)
                                              (Int.toNat (IntKind.wrap IntKind.i64 ((↑i : Int) - 1))))
                                            1),
                                        goI
                                          (rdI
                                            (rowAt (List.map encS l)
                                              (Int.toNat (IntKind.wrap IntKind.i64 ((↑i : Int) - 1))))
                                            2),
                                        goB
                                          (rdB
                                            (rowAt (List.map encS l)
                                              (Int.toNat (IntKind.wrap IntKind.i64 ((↑i : Int) - 1))))
                                            3)]) ∧
                                (0 ≤ (↑i : Int) ∧
                                    (List.map encS l)[i]? =
                                      some
                                        [goI (rdI (rowAt (List.map encS l) i) 0),
                                          goI (rdI (rowAt (List.map encS l) i) 1),
                                          goI (rdI (rowAt (List.map encS l) i) 2),
                                          goB (rdB (rowAt (List.map encS l) i) 3)]) ∧
                                  TB
                                    (decide
                                      (rdI
                                          (rowAt (List.map encS l)
                                            (Int.toNat (IntKind.wrap IntKind.i64 ((↑i : Int) - 1))))
                                          0 ≥
                                        rdI (rowAt (List.map encS l) i) 0))
                                    ((Ex.ret, mkS 101 [(2, goB false)]) = r)
                                    (TB b
                                      (LoopTo Try.prog H (H 13) 0 (loopOf Try.prog 13 11)
                                          (mkS 101 [(0, AV.sl (List.map encS l)), (3, goI (↑i : Int)), (4, goI 0)])
                                          (Ex.exit 2, mkS 101 [(0, AV.sl (List.map encS l)), (3, goI (↑i : Int))]) ∧
                                        LoopTo Try.prog H (H 13) 0 (loopOf Try.prog 13 4)
                                          (mkS 101
                                            [(0, AV.sl (List.map encS l)),
                                              (3, goI (IntKind.wrap IntKind.i64 ((↑i : Int) + 1)))])
                                          r)
                                      (LoopTo Try.prog H (H 13) 0 (loopOf Try.prog 13 11)
                                          (mkS 101 [(0, AV.sl (List.map encS l)), (3, goI (↑i : Int)), (4, goI 0)])
                                          (Ex.ret, mkS 101 [(2, goB false)]) ∧
                                        (Ex.ret, mkS 101 [(2, goB false)]) = r)))
                              (TB b
                                (LoopTo Try.prog H (H 13) 0 (loopOf Try.prog 13 11)
                                    (mkS 101 [(0, AV.sl (List.map encS l)), (3, goI (↑i : Int)), (4, goI 0)])
                                    (Ex.exit 2, mkS 101 [(0, AV.sl (List.map encS l)), (3, goI (↑i : Int))]) ∧
                                  LoopTo Try.prog H (H 13) 0 (loopOf Try.prog 13 4)
                                    (mkS 101
                                      [(0, AV.sl (List.map encS l)),
                                        (3, goI (IntKind.wrap IntKind.i64 ((↑i : Int) + 1)))])
                                    r)
                                (LoopTo Try.prog H (H 13) 0 (loopOf Try.prog 13 11)
                                    (mkS 101 [(0, AV.sl (List.map encS l)), (3, goI (↑i : Int)), (4, goI 0)])
                                    (Ex.ret, mkS 101 [(2, goB false)]) ∧
                                  (Ex.ret, mkS 101 [(2, goB false)]) = r))))
                  (TB b
                    (LoopTo Try.prog H (H 13) 0 (loopOf Try.prog 13 11)
                        (mkS 101 [(0, AV.sl (List.map encS l)), (3, goI (↑i : Int)), (4, goI 0)])
                        (Ex.exit 2, mkS 101 [(0, AV.sl (List.map encS l)), (3, goI (↑i : Int))]) ∧
                      LoopTo Try.prog H (H 13) 0 (loopOf Try.prog 13 4)
                        (mkS 101 [(0, AV.sl (List.map encS l)), (3, goI (IntKind.wrap IntKind.i64 ((↑i : Int) + 1)))])
                        r)
                    (LoopTo Try.prog H (H 13) 0 (loopOf Try.prog 13 11)
                        (mkS 101 [(0, AV.sl (List.map encS l)), (3, goI (↑i : Int)), (4, goI 0)])
                        (Ex.ret, mkS 101 [(2, goB false)]) ∧
                      (Ex.ret, mkS 101 [(2, goB false)]) = r))))))
  ((Ex.exit 0, mkS 101 []) = r)) := by kernel_rfl
theorem t13_11 (l : List Span) (i : Nat) (k : Nat) (r : Ex × St) : (turnT Try.prog H (fun f args sto => CT.of (F0 f args sto)) L0 false (H 13) 0 (loopOf Try.prog 13 11)
  (mkS 101 [(0, AV.sl (List.map encS l)), (3, goI (↑i : Int)), (4, goI (↑k : Int))]) r) = (TB (decide ((↑k : Int) < (↑i : Int)))
  ((0 ≤ (↑k : Int) ∧
      (List.map encS l)[k]? =
        some
          [goI (rdI (rowAt (List.map encS l) k) 0), goI (rdI (rowAt (List.map encS l) k) 1),
            goI (rdI (rowAt (List.map encS l) k) 2), goB (rdB (rowAt (List.map encS l) k) 3)]) ∧
    (0 ≤ (↑i : Int) ∧
        (List.map encS l)[i]? =
          some
            [goI (rdI (rowAt (List.map encS l) i) 0), goI (rdI (rowAt (List.map encS l) i) 1),
              goI (rdI (rowAt (List.map encS l) i) 2), goB (rdB (rowAt (List.map encS l) i) 3)]) ∧
      TB (rdI (rowAt (List.map encS l) k) 0 == rdI (rowAt (List.map encS l) i) 0)
        ((Ex.ret, mkS 101 [(2, goB false)]) = r)
        (LoopTo Try.prog H (H 13) 0 (loopOf Try.prog 13 11)
          (mkS 101
            [(0, AV.sl (List.map encS l)), (3, goI (↑i : Int)), (4, goI (IntKind.wrap IntKind.i64 ((↑k : Int) + 1)))])
          r))
  ((Ex.exit 2, mkS 101 [(0, AV.sl (List.map encS l)), (3, goI (↑i : Int))]) = r)) := by kernel_rfl
theorem t12 (l : List Span) (b : Bool) (r : AV × List Row × List Nat) : (runT Try.prog H (fun f args sto => CT.of (F0 f args sto)) (L12 b) false 12 [AV.sl (List.map encS l)] [] fun q => q = r) = (TB (decide ((↑(List.length (List.map encS l)) : Int) > 48)) ((goB false, [], []) = r)
  (TB b
    (LoopTo Try.prog H (H 12) 0 (loopOf Try.prog 12 5)
        (mkS 56
          [(0, AV.sl (List.map encS l)), (3, AV.mp 0), (10, AV.sl (List.map encS l)),
            (11, goI (↑(List.length (List.map encS l)) : Int)), (12, goI 0)]
          [Row.map (false, [IntKind.i64]) [], Row.dead])
        (Ex.exit 0, mkS 56 [] [Row.dead, Row.dead]) ∧
      (goB true, [], []) = r)
    (LoopTo Try.prog H (H 12) 0 (loopOf Try.prog 12 5)
        (mkS 56
          [(0, AV.sl (List.map encS l)), (3, AV.mp 0), (10, AV.sl (List.map encS l)),
            (11, goI (↑(List.length (List.map encS l)) : Int)), (12, goI 0)]
          [Row.map (false, [IntKind.i64]) [], Row.dead])
        (Ex.ret, mkS 56 [(2, goB false)] [Row.dead, Row.dead]) ∧
      (goB false, [], []) = r))) := by kernel_rfl
theorem t12_5 (l : List Span) (L : List (List Int × Value)) (i : Nat) (r : Ex × St) : (turnT Try.prog H F22 L0 false (H 12) 0 (loopOf Try.prog 12 5)
  (mkS 56
    [(0, AV.sl (List.map encS l)), (3, AV.mp 0), (10, AV.sl (List.map encS l)), (11, goI (↑(List.length l) : Int)),
      (12, goI (↑i : Int))]
    [Row.map kd1 L, Row.dead])
  r) = (TB (decide ((↑i : Int) < (↑(List.length l) : Int)))
  ((0 ≤ (↑i : Int) ∧
      (List.map encS l)[i]? =
        some
          [goI (rdI (rowAt (List.map encS l) i) 0), goI (rdI (rowAt (List.map encS l) i) 1),
            goI (rdI (rowAt (List.map encS l) i) 2), goB (rdB (rowAt (List.map encS l) i) 3)]) ∧
    TB (decide (rdI (rowAt (List.map encS l) i) 1 < 0)) ((Ex.ret, mkS 56 [(2, goB false)] [Row.dead, Row.dead]) = r)
      (TB (decide (rdI (rowAt (List.map encS l) i) 1 > rdI (rowAt (List.map encS l) i) 2))
        ((Ex.ret, mkS 56 [(2, goB false)] [Row.dead, Row.dead]) = r)
        (TB (decide (rdI (rowAt (List.map encS l) i) 2 > 1099511627776))
          ((Ex.ret, mkS 56 [(2, goB false)] [Row.dead, Row.dead]) = r)
          (goodKey [IntKind.i64] [rdI (rowAt (List.map encS l) i) 0] = true ∧
            atKeyV [rdI (rowAt (List.map encS l) i) 0] (Value.bool false) L =
                Value.bool (boolOf (AV.v (atKeyV [rdI (rowAt (List.map encS l) i) 0] (Value.bool false) L))) ∧
              TB (boolOf (AV.v (atKeyV [rdI (rowAt (List.map encS l) i) 0] (Value.bool false) L)))
                ((Ex.ret, mkS 56 [(2, goB false)] [Row.dead, Row.dead]) = r)
                (TB (decide ((↑i : Int) > 0))
                  ((0 ≤ IntKind.wrap IntKind.i64 ((↑i : Int) - 1) ∧
                      (List.map encS l)[Int.toNat (IntKind.wrap IntKind.i64 ((↑i : Int) - 1))]? =
                        some
                          [goI
                              (rdI (rowAt (List.map encS l) (Int.toNat (IntKind.wrap IntKind.i64 ((↑i : Int) - 1)))) 0),
                            goI
                              (rdI (rowAt (List.map encS l) (Int.toNat (IntKind.wrap IntKind.i64 ((↑i : Int) - 1)))) 1),
                            goI
                              (rdI (rowAt (List.map encS l) (Int.toNat (IntKind.wrap IntKind.i64 ((↑i : Int) - 1)))) 2),
                            goB
                              (rdB (rowAt (List.map encS l) (Int.toNat (IntKind.wrap IntKind.i64 ((↑i : Int) - 1))))
                                3)]) ∧
                    Wf Try.prog H 22
                          [AV.agg
                              [goI
                                  (rdI (rowAt (List.map encS l) (Int.toNat (IntKind.wrap IntKind.i64 ((↑i : Int) - 1))))
                                    0),
                                goI
                                  (rdI (rowAt (List.map encS l) (Int.toNat (IntKind.wrap IntKind.i64 ((↑i : Int) - 1))))
                                    1),
                                goI
                                  (rdI (rowAt (List.map encS l) (Int.toNat (IntKind.wrap IntKind.i64 ((↑i : Int) - 1))))
                                    2),
                                goB
                                  (rdB (rowAt (List.map encS l) (Int.toNat (IntKind.wrap IntKind.i64 ((↑i : Int) - 1))))
                                    3)],
                            AV.agg
                              [goI (rdI (rowAt (List.map encS l) i) 0), goI (rdI (rowAt (List.map encS l) i) 1),
                                goI (rdI (rowAt (List.map encS l) i) 2), goB (rdB (rowAt (List.map encS l) i) 3)]]
                          [] =
                        some
                          (goB
                              (U.riseR
                                (rdI (rowAt (List.map encS l) (Int.toNat (IntKind.wrap IntKind.i64 ((↑i : Int) - 1))))
                                  0)
                                (rdI (rowAt (List.map encS l) (Int.toNat (IntKind.wrap IntKind.i64 ((↑i : Int) - 1))))
                                  1)
                                (rdI (rowAt (List.map encS l) (Int.toNat (IntKind.wrap IntKind.i64 ((↑i : Int) - 1))))
                                  2)
                                (rdB (rowAt (List.map encS l) (Int.toNat (IntKind.wrap IntKind.i64 ((↑i : Int) - 1))))
                                  3)
                                (rdI (rowAt (List.map encS l) i) 0) (rdI (rowAt (List.map encS l) i) 1)
                                (rdI (rowAt (List.map encS l) i) 2) (rdB (rowAt (List.map encS l) i) 3)),
                            [], []) ∧
                      TB
                        (!U.riseR
                            (rdI (rowAt (List.map encS l) (Int.toNat (IntKind.wrap IntKind.i64 ((↑i : Int) - 1)))) 0)
                            (rdI (rowAt (List.map encS l) (Int.toNat (IntKind.wrap IntKind.i64 ((↑i : Int) - 1)))) 1)
                            (rdI (rowAt (List.map encS l) (Int.toNat (IntKind.wrap IntKind.i64 ((↑i : Int) - 1)))) 2)
                            (rdB (rowAt (List.map encS l) (Int.toNat (IntKind.wrap IntKind.i64 ((↑i : Int) - 1)))) 3)
                            (rdI (rowAt (List.map encS l) i) 0) (rdI (rowAt (List.map encS l) i) 1)
                            (rdI (rowAt (List.map encS l) i) 2) (rdB (rowAt (List.map encS l) i) 3))
                        ((Ex.ret, mkS 56 [(2, goB false)] [Row.dead, Row.dead]) = r)
                        (goodKey [IntKind.i64] [rdI (rowAt (List.map encS l) i) 0] = true ∧
                          LoopTo Try.prog H (H 12) 0 (loopOf Try.prog 12 5)
                            (mkS 56
                              [(0, AV.sl (List.map encS l)), (3, AV.mp 0), (10, AV.sl (List.map encS l)),
                                (11, goI (↑(List.length l) : Int)),
                                (12, goI (IntKind.wrap IntKind.i64 ((↑i : Int) + 1)))]
                              [Row.map (false, [IntKind.i64])
                                  (updL [rdI (rowAt (List.map encS l) i) 0] (Value.bool true) L),
                                Row.dead])
                            r))
                  (goodKey [IntKind.i64] [rdI (rowAt (List.map encS l) i) 0] = true ∧
                    LoopTo Try.prog H (H 12) 0 (loopOf Try.prog 12 5)
                      (mkS 56
                        [(0, AV.sl (List.map encS l)), (3, AV.mp 0), (10, AV.sl (List.map encS l)),
                          (11, goI (↑(List.length l) : Int)), (12, goI (IntKind.wrap IntKind.i64 ((↑i : Int) + 1)))]
                        [Row.map (false, [IntKind.i64]) (updL [rdI (rowAt (List.map encS l) i) 0] (Value.bool true) L),
                          Row.dead])
                      r))))))
  ((Ex.exit 0, mkS 56 [] [Row.dead, Row.dead]) = r)) := by kernel_rfl
namespace U
def met (l : List Span) (i : Nat) (x : Int) : Bool := !(allFrom (fun k => !(decide ((sp l k).v = x))) 0 i)
def right (l : List Span) : Bool := decide (l.length ≤ 48) && rightFrom l 0
end U
theorem new_met (l : List Span) (i : Nat) : U.newFrom l i 0 = !(U.met l i (U.sp l i).v) := by simp [U.newFrom, U.met]
theorem met_step (l : List Span) (i : Nat) (x : Int) : U.met l (i + 1) x = if x = (U.sp l i).v then true else U.met l i x := by
  unfold U.met
  rw [allFrom_last _ (Nat.zero_le _)]
  by_cases h : x = (U.sp l i).v
  · subst h; simp
  · rw [if_neg h, decide_eq_false (fun q => h q.symm)]; simp
theorem met_zero (l : List Span) (x : Int) : U.met l 0 x = false := by simp [U.met, allFrom_end]
theorem right_step (l : List Span) {i : Nat} (h : i < l.length) : U.rightFrom l i = (U.rightAt l i && U.rightFrom l (i + 1)) := allFrom_step _ h
theorem right_no {l : List Span} {i : Nat} (h : U.okAt l i = false ∨ U.riseAt l i = false ∨ U.newFrom l i 0 = false) : U.rightAt l i = false := by
  unfold U.rightAt
  rcases h with h | h | h
  · rw [h]; rfl
  · rw [h]; simp
  · rw [h]; simp
theorem right_yes {l : List Span} {i : Nat} (h1 : U.okAt l i = true) (h2 : U.riseAt l i = true) (h3 : U.newFrom l i 0 = true) : U.rightAt l i = true := by unfold U.rightAt; rw [h1, h2, h3]; rfl
theorem ok_no {l : List Span} {i : Nat} (h : (U.sp l i).fr < 0 ∨ (U.sp l i).to < (U.sp l i).fr ∨ 1099511627776 < (U.sp l i).to) : U.okAt l i = false := by
  simp only [U.okAt, Bool.and_eq_false_imp, decide_eq_true_eq, decide_eq_false_iff_not]; omega
theorem ok_yes {l : List Span} {i : Nat} (h1 : ¬ (U.sp l i).fr < 0) (h2 : ¬ (U.sp l i).to < (U.sp l i).fr) (h3 : ¬ 1099511627776 < (U.sp l i).to) : U.okAt l i = true := by
  simp only [U.okAt, Bool.and_eq_true, decide_eq_true_eq]; omega
theorem new_step (l : List Span) {i k : Nat} (h : k < i) : U.newFrom l i k = (!(decide ((U.sp l k).v = (U.sp l i).v)) && U.newFrom l i (k + 1)) := allFrom_step _ h
theorem new_end {l : List Span} {i k : Nat} (h : i ≤ k) : U.newFrom l i k = true := allFrom_end _ h
theorem right_end {l : List Span} {i : Nat} (h : l.length ≤ i) : U.rightFrom l i = true := allFrom_end _ h
theorem loop13_11 (l : List Span) (i : Nat) (hi : i < l.length) (hl : l.length < 1000000) : ∀ (d k : Nat), k + d = i →
    LoopTo Try.prog H (H 13) 0 (loopOf Try.prog 13 11) (mkS 101 [(0, .sl (l.map encS)), (3, goI i), (4, goI k)])
      (if U.newFrom l i k then (.exit 2, mkS 101 [(0, .sl (l.map encS)), (3, goI i)]) else (.ret, mkS 101 [(2, goB false)]))
  | 0, k, hd => by
    refine turnK (t13_11 l i k _) ?_
    rw [decide_eq_false (by omega), new_end (by omega)]
    exact rfl
  | d + 1, k, hd => by
    have hk : k < i := by omega
    have hkl : k < l.length := by omega
    refine turnK (t13_11 l i k _) ?_
    have ih := loop13_11 l i hi hl d (k + 1) (by omega)
    rw [decide_eq_true (by omega), wrapS hk (by omega), rowS hkl, getS hkl, rowS hi, getS hi, new_step l hk]
    simp only [rdI, rdB, List.getD_cons_zero, List.getD_cons_succ, int_goI, bool_goB]
    refine ⟨⟨by omega, by trivial⟩, ⟨by omega, by trivial⟩, ?_⟩
    by_cases h : (U.sp l k).v = (U.sp l i).v
    · rw [beq_iff_eq.2 h, decide_eq_true h]; exact rfl
    · rw [beq_eq_false_iff_ne.2 h, decide_eq_false h]; exact ih
theorem loop13_4 (l : List Span) (hl : l.length < 1000000) : ∀ (d i : Nat), i + d = l.length →
    LoopTo Try.prog H (H 13) 0 (loopOf Try.prog 13 4) (mkS 101 [(0, .sl (l.map encS)), (3, goI i)])
      (if U.rightFrom l i then (.exit 0, mkS 101 []) else (.ret, mkS 101 [(2, goB false)]))
  | 0, i, hd => by
    refine turnK (t13_4 l i true _) ?_
    rw [List.length_map, decide_eq_false (by omega), right_end (by omega)]
    exact rfl
  | d + 1, i, hd => by
    have hi : i < l.length := by omega
    have ih := loop13_4 l hl d (i + 1) (by omega)
    have h11 := loop13_11 l i hi hl i 0 (by omega)
    refine turnK (t13_4 l i (U.newFrom l i 0) _) ?_
    rw [List.length_map, decide_eq_true (by omega), wrapS hi hl, rowS hi, getS hi, right_step l hi]
    simp only [rdI, rdB, List.getD_cons_zero, List.getD_cons_succ, int_goI, bool_goB]
    refine ⟨⟨by omega, by trivial⟩, ?_⟩
    by_cases h1 : (U.sp l i).fr < 0
    · rw [decide_eq_true h1, right_no (.inl (ok_no (.inl h1)))]; exact rfl
    rw [decide_eq_false h1]
    refine ⟨⟨by omega, by trivial⟩, ⟨by omega, by trivial⟩, ?_⟩
    by_cases h2 : (U.sp l i).to < (U.sp l i).fr
    · rw [decide_eq_true (show (U.sp l i).fr > (U.sp l i).to from h2), right_no (.inl (ok_no (.inr (.inl h2))))]; exact rfl
    rw [decide_eq_false (show ¬ (U.sp l i).fr > (U.sp l i).to from h2)]
    refine ⟨⟨by omega, by trivial⟩, ?_⟩
    by_cases h3 : 1099511627776 < (U.sp l i).to
    · rw [decide_eq_true (show (U.sp l i).to > 1099511627776 from h3), right_no (.inl (ok_no (.inr (.inr h3))))]; exact rfl
    rw [decide_eq_false (show ¬ (U.sp l i).to > 1099511627776 from h3)]
    have hok := ok_yes h1 h2 h3
    have fin : U.riseAt l i = true → TB (U.newFrom l i 0)
        (LoopTo Try.prog H (H 13) 0 (loopOf Try.prog 13 11) (mkS 101 [(0, .sl (l.map encS)), (3, goI i), (4, goI 0)]) (.exit 2, mkS 101 [(0, .sl (l.map encS)), (3, goI i)]) ∧
          LoopTo Try.prog H (H 13) 0 (loopOf Try.prog 13 4) (mkS 101 [(0, .sl (l.map encS)), (3, goI ((i + 1 : Nat) : Int))]) (if (U.rightAt l i && U.rightFrom l (i + 1)) = true then (.exit 0, mkS 101 []) else (.ret, mkS 101 [(2, goB false)])))
        (LoopTo Try.prog H (H 13) 0 (loopOf Try.prog 13 11) (mkS 101 [(0, .sl (l.map encS)), (3, goI i), (4, goI 0)]) (.ret, mkS 101 [(2, goB false)]) ∧
          (Ex.ret, mkS 101 [(2, goB false)]) = (if (U.rightAt l i && U.rightFrom l (i + 1)) = true then (.exit 0, mkS 101 []) else (.ret, mkS 101 [(2, goB false)]))) := fun hr => by
      cases h5 : U.newFrom l i 0 with
      | true => rw [h5] at h11; rw [right_yes hok hr h5]; exact ⟨h11, ih⟩
      | false => rw [h5] at h11; rw [right_no (.inr (.inr h5))]; exact ⟨h11, rfl⟩
    cases i with
    | zero => exact fin rfl
    | succ j =>
      have hj : j < l.length := by omega
      have e : IntKind.i64.wrap (((j + 1 : Nat) : Int) - 1) = (j : Int) := by rw [wrap64] <;> omega
      rw [decide_eq_true (show (((j + 1 : Nat) : Int)) > 0 by omega), e, Int.toNat_natCast, rowS hj, getS hj]
      simp only [List.getD_cons_zero, List.getD_cons_succ, int_goI, bool_goB]
      refine ⟨⟨by omega, by trivial⟩, ⟨by omega, by trivial⟩, ?_⟩
      have er : U.riseAt l (j + 1) = U.rise (U.sp l j) (U.sp l (j + 1)) := by unfold U.riseAt; rw [decide_eq_false (by omega)]; rfl
      by_cases h6 : (U.sp l j).fr > (U.sp l (j + 1)).fr
      · have hb : U.rise (U.sp l j) (U.sp l (j + 1)) = false := by
          unfold U.rise; rw [decide_eq_false (by omega), beq_eq_false_iff_ne.2 (by omega)]; rfl
        rw [decide_eq_true h6, right_no (.inr (.inl (er.trans hb)))]; exact rfl
      rw [decide_eq_false h6]
      refine ⟨⟨by omega, by trivial⟩, ⟨by omega, by trivial⟩, ?_⟩
      by_cases h7 : (U.sp l j).fr = (U.sp l (j + 1)).fr
      · rw [beq_iff_eq.2 h7]
        refine ⟨⟨by omega, by trivial⟩, ⟨by omega, by trivial⟩, ?_⟩
        by_cases h8 : (U.sp l j).v ≥ (U.sp l (j + 1)).v
        · have hb : U.rise (U.sp l j) (U.sp l (j + 1)) = false := by
            unfold U.rise; rw [decide_eq_false (by omega), beq_iff_eq.2 h7, decide_eq_false (by omega)]; rfl
          rw [decide_eq_true h8, right_no (.inr (.inl (er.trans hb)))]; exact rfl
        · have hb : U.rise (U.sp l j) (U.sp l (j + 1)) = true := by
            unfold U.rise; rw [decide_eq_false (by omega), beq_iff_eq.2 h7, decide_eq_true (by omega)]; rfl
          rw [decide_eq_false h8]
          exact fin (er.trans hb)
      · have hb : U.rise (U.sp l j) (U.sp l (j + 1)) = true := by
          unfold U.rise; rw [decide_eq_true (by omega)]; rfl
        rw [beq_eq_false_iff_ne.2 h7]
        exact fin (er.trans hb)
theorem wf13 (l : List Span) : Wf Try.prog H 13 [.sl (l.map encS)] [] = some (goB (U.right l), [], []) := by
  refine runK (t13 l (U.rightFrom l 0) _) ?_
  rw [List.length_map]
  unfold U.right
  by_cases h : l.length ≤ 48
  · have h4 := loop13_4 l (by omega) l.length 0 (by omega)
    rw [decide_eq_false (by omega), decide_eq_true h]
    cases h1 : U.rightFrom l 0 with
    | true => rw [h1] at h4; exact ⟨h4, rfl⟩
    | false => rw [h1] at h4; exact ⟨h4, rfl⟩
  · rw [decide_eq_true (by omega), decide_eq_false h]; exact rfl
theorem sp_mem {l : List Span} {i : Nat} (h : i < l.length) : U.sp l i ∈ l := getD_mem h
theorem loop12_5 (l : List Span) (hw : ∀ s ∈ l, In64 s.v) (hl : l.length < 1000000) : ∀ (d i : Nat) (L : List (List Int × Value)), i + d = l.length → MapI L (.bool false) (fun x => .bool (U.met l i x)) →
    LoopTo Try.prog H (H 12) 0 (loopOf Try.prog 12 5) (mkS 56 [(0, .sl (l.map encS)), (3, .mp 0), (10, .sl (l.map encS)), (11, goI l.length), (12, goI i)] [.map kd1 L, .dead])
      (if U.rightFrom l i then (.exit 0, mkS 56 [] [.dead, .dead]) else (.ret, mkS 56 [(2, goB false)] [.dead, .dead]))
  | 0, i, L, hd, hL => by
    refine turnK (t12_5 l L i _) ?_
    rw [decide_eq_false (by omega), right_end (by omega)]
    exact rfl
  | d + 1, i, L, hd, hL => by
    have hi : i < l.length := by omega
    have ih := loop12_5 l hw hl d (i + 1) (updL [(U.sp l i).v] (.bool true) L) (by omega) ((hL.upd (U.sp l i).v (.bool true)).congr (fun x => by
      rw [met_step]; split <;> rfl))
    have hv := good1 (hw _ (sp_mem hi))
    refine turnK (t12_5 l L i _) ?_
    rw [decide_eq_true (by omega), wrapS hi hl, rowS hi, getS hi, right_step l hi]
    simp only [rdI, rdB, List.getD_cons_zero, List.getD_cons_succ, int_goI, bool_goB]
    refine ⟨⟨by omega, by trivial⟩, ?_⟩
    by_cases h1 : (U.sp l i).fr < 0
    · rw [decide_eq_true h1, right_no (.inl (ok_no (.inl h1)))]; exact rfl
    rw [decide_eq_false h1]
    by_cases h2 : (U.sp l i).to < (U.sp l i).fr
    · rw [decide_eq_true (show (U.sp l i).fr > (U.sp l i).to from h2), right_no (.inl (ok_no (.inr (.inl h2))))]; exact rfl
    rw [decide_eq_false (show ¬ (U.sp l i).fr > (U.sp l i).to from h2)]
    by_cases h3 : 1099511627776 < (U.sp l i).to
    · rw [decide_eq_true (show (U.sp l i).to > 1099511627776 from h3), right_no (.inl (ok_no (.inr (.inr h3))))]; exact rfl
    rw [decide_eq_false (show ¬ (U.sp l i).to > 1099511627776 from h3)]
    have hok := ok_yes h1 h2 h3
    have hLv : atKeyV [(U.sp l i).v] (.bool false) L = .bool (U.met l i (U.sp l i).v) := hL _
    have eb : boolOf (.v (.bool (U.met l i (U.sp l i).v))) = U.met l i (U.sp l i).v := rfl
    rw [hLv, eb]
    refine ⟨hv, by rfl, ?_⟩
    have hnm := new_met l i
    cases hm : U.met l i (U.sp l i).v with
    | true =>
      rw [hm] at hnm
      rw [right_no (.inr (.inr hnm))]; exact rfl
    | false =>
      rw [hm] at hnm
      cases i with
      | zero => rw [right_yes hok rfl hnm]; exact ⟨hv, ih⟩
      | succ j =>
        have hj : j < l.length := by omega
        have e : IntKind.i64.wrap (((j + 1 : Nat) : Int) - 1) = (j : Int) := by rw [wrap64] <;> omega
        have er : U.riseAt l (j + 1) = U.rise (U.sp l j) (U.sp l (j + 1)) := by unfold U.riseAt; rw [decide_eq_false (by omega)]; rfl
        have h22 := wf22 (U.sp l j) (U.sp l (j + 1))
        rw [decide_eq_true (show (((j + 1 : Nat) : Int)) > 0 by omega), e, Int.toNat_natCast, rowS hj, getS hj]
        simp only [List.getD_cons_zero, List.getD_cons_succ, int_goI, bool_goB]
        have e2 : U.riseR (U.sp l j).v (U.sp l j).fr (U.sp l j).to (U.sp l j).call (U.sp l (j + 1)).v (U.sp l (j + 1)).fr (U.sp l (j + 1)).to (U.sp l (j + 1)).call = U.rise (U.sp l j) (U.sp l (j + 1)) := rfl
        rw [e2]
        refine ⟨⟨by omega, by trivial⟩, h22, ?_⟩
        cases hr : U.rise (U.sp l j) (U.sp l (j + 1)) with
        | false => rw [right_no (.inr (.inl (er.trans hr)))]; exact rfl
        | true => rw [right_yes hok (er.trans hr) hnm]; exact ⟨hv, ih⟩
theorem wf12 (l : List Span) (hw : ∀ s ∈ l, In64 s.v) : Wf Try.prog H 12 [.sl (l.map encS)] [] = some (goB (U.right l), [], []) := by
  refine runK (t12 l (U.rightFrom l 0) _) ?_
  rw [List.length_map]
  unfold U.right
  by_cases h : l.length ≤ 48
  · have h4 := loop12_5 l hw (by omega) l.length 0 [] (by omega) (fun x => by
      show _ = Value.bool (U.met l 0 x)
      rw [met_zero]; rfl)
    rw [decide_eq_false (by omega), decide_eq_true h]
    cases h1 : U.rightFrom l 0 with
    | true => rw [h1] at h4; exact ⟨h4, rfl⟩
    | false => rw [h1] at h4; exact ⟨h4, rfl⟩
  · rw [decide_eq_true (by omega), decide_eq_false h]; exact rfl
end Go.Proofs.Ythbkemkjkpaoaac.E
