/- Functions, by what the evaluator asks; the theorems t.. were printed by show.txt, a program of this session. -/
import Derived.Test.Ythbkemkjkpaoaac16g
set_option linter.unusedVariables false
set_option linter.unusedSimpArgs false
set_option maxRecDepth 100000
namespace Go.Proofs.Ythbkemkjkpaoaac.E
open Go
def L21 (v : Int) : Nat → St → LT := fun id st => .is .ret (mkS 43 [(6, .pt 0 0 0)] [.box [goI 2, goI v]])
def L213 (l : List Span) (hs : List Loc) (i n : Nat) (b : Bool) : Nat → St → LT := fun id st => .is (.exit 2) (mkS 43 [(0, .sl (l.map encS)), (1, .sl (hs.map encL)), (2, goI i), (6, .pt 0 0 0), (7, goI n), (8, goB b)] [.box [goI 0, goI 0]])
def F10 : CallT := fun f args sto => match f, args, sto with
 | 13, [.sl l], _ => .is (goB (U.rightR l), [], [])
 | 21, [.sl l, .sl hs, .v (.int _ i)], _ => .is (.agg [goI 2, goI (U.slotR l hs i.toNat)], [], [])
 | _, _, _ => .no
def L10 (hs : List Loc) : Nat → St → LT := fun id st => .is (.exit 0) (mkS 170 [(6, .os 0 0 hs.length)] [.arr 2 (hs.map encL), .dead])
def L105 (l : List Span) (hs : List Loc) (rs : List Int) (i f : Nat) (w : Int) : Nat → St → LT := fun id st => match id with
 | 12 => .is (.exit 2) (mkS 170 [(0, .sl (l.map encS)), (1, goI rs.length), (6, .os 0 0 hs.length), (7, goI i), (8, .os 1 0 rs.length), (9, goI w)] [.arr 2 (hs.map encL), .arr 1 (rs.map encI)])
 | 26 => .is (.exit 6) (mkS 170 [(0, .sl (l.map encS)), (1, goI rs.length), (6, .os 0 0 hs.length), (7, goI i), (12, goI f)] [.arr 2 (hs.map encL), .arr 1 (rs.map encI)])
 | _ => .no
def L1012 (l : List Span) (hs : List Loc) (rs : List Int) (i k : Nat) (w : Int) : Nat → St → LT := fun id st => .is (.exit 4) (mkS 170 [(0, .sl (l.map encS)), (1, goI rs.length), (6, .os 0 0 hs.length), (7, goI i), (8, .os 1 0 rs.length), (9, goI w), (10, goI k)] [.arr 2 (hs.map encL), .arr 1 (rs.map encI)])

theorem t21 (l : List Span) (hs : List Loc) (i : Nat) (v : Int) (r : AV × List Row × List Nat) : (runT Try.prog H (fun f args sto => CT.of (F0 f args sto)) (L21 v) false 21
  [AV.sl (List.map encS l), AV.sl (List.map encL hs), goI (↑i : Int)] [] fun q => q = r) = (LoopTo Try.prog H (H 21) 0 (loopOf Try.prog 21 3)
    (mkS 43
      [(0, AV.sl (List.map encS l)), (1, AV.sl (List.map encL hs)), (2, goI (↑i : Int)), (6, AV.pt 0 0 0), (7, goI 0)]
      [Row.box [goI 0, goI 0]])
    (Ex.ret, mkS 43 [(6, AV.pt 0 0 0)] [Row.box [goI 2, goI v]]) ∧
  (AV.agg [goI 2, goI v], [], []) = r) := by kernel_rfl
theorem t21_3 (l : List Span) (hs : List Loc) (i : Nat) (n : Nat) (b : Bool) (r : Ex × St) : (turnT Try.prog H (fun f args sto => CT.of (F0 f args sto)) (L213 l hs i n b) false (H 21) 0 (loopOf Try.prog 21 3)
  (mkS 43
    [(0, AV.sl (List.map encS l)), (1, AV.sl (List.map encL hs)), (2, goI (↑i : Int)), (6, AV.pt 0 0 0),
      (7, goI (↑n : Int))]
    [Row.box [goI 0, goI 0]])
  r) = (LoopTo Try.prog H (H 21) 0 (loopOf Try.prog 21 5)
    (mkS 43
      [(0, AV.sl (List.map encS l)), (1, AV.sl (List.map encL hs)), (2, goI (↑i : Int)), (6, AV.pt 0 0 0),
        (7, goI (↑n : Int)), (8, goB true), (9, goI 0)]
      [Row.box [goI 0, goI 0]])
    (Ex.exit 2,
      mkS 43
        [(0, AV.sl (List.map encS l)), (1, AV.sl (List.map encL hs)), (2, goI (↑i : Int)), (6, AV.pt 0 0 0),
          (7, goI (↑n : Int)), (8, goB b)]
        [Row.box [goI 0, goI 0]]) ∧
  TB b ((Ex.ret, mkS 43 [(6, AV.pt 0 0 0)] [Row.box [goI 2, goI (↑n : Int)]]) = r)
    (LoopTo Try.prog H (H 21) 0 (loopOf Try.prog 21 3)
      (mkS 43
        [(0, AV.sl (List.map encS l)), (1, AV.sl (List.map encL hs)), (2, goI (↑i : Int)), (6, AV.pt 0 0 0),
          (7, goI (IntKind.wrap IntKind.i64 ((↑n : Int) + 1)))]
        [Row.box [goI 0, goI 0]])
      r)) := by kernel_rfl
theorem t21_5 (l : List Span) (hs : List Loc) (i : Nat) (n : Nat) (k : Nat) (b : Bool) (r : Ex × St) : (turnT Try.prog H F23 L0 false (H 21) 0 (loopOf Try.prog 21 5)
  (mkS 43
    [(0, AV.sl (List.map encS l)), (1, AV.sl (List.map encL hs)), (2, goI (↑i : Int)), (6, AV.pt 0 0 0),
      (7, goI (↑n : Int)), (8, goB b), (9, goI (↑k : Int))]
    [Row.box [goI 0, goI 0]])
  r) = (TB (decide ((↑k : Int) < (↑(List.length (List.map encS l)) : Int)))
  (TB b
    ((0 ≤ (↑k : Int) ∧
        (List.map encL hs)[k]? =
          some [goI (rdI (rowAt (List.map encL hs) k) 0), goI (rdI (rowAt (List.map encL hs) k) 1)]) ∧
      TB (!(rdI (rowAt (List.map encL hs) k) 0 == 2 && (rdI (rowAt (List.map encL hs) k) 1 == (↑n : Int) && true)))
        (LoopTo Try.prog H (H 21) 0 (loopOf Try.prog 21 5)
          (mkS 43
            [(0, AV.sl (List.map encS l)), (1, AV.sl (List.map encL hs)), (2, goI (↑i : Int)), (6, AV.pt 0 0 0),
              (7, goI (↑n : Int)), (8, goB true), (9, goI (IntKind.wrap IntKind.i64 ((↑k : Int) + 1)))]
            [Row.box [goI 0, goI 0]])
          r)
        ((0 ≤ (↑k : Int) ∧
            (List.map encS l)[k]? =
              some
                [goI (rdI (rowAt (List.map encS l) k) 0), goI (rdI (rowAt (List.map encS l) k) 1),
                  goI (rdI (rowAt (List.map encS l) k) 2), goB (rdB (rowAt (List.map encS l) k) 3)]) ∧
          (0 ≤ (↑i : Int) ∧
              (List.map encS l)[i]? =
                some
                  [goI (rdI (rowAt (List.map encS l) i) 0), goI (rdI (rowAt (List.map encS l) i) 1),
                    goI (rdI (rowAt (List.map encS l) i) 2), goB (rdB (rowAt (List.map encS l) i) 3)]) ∧
            Wf Try.prog H 24
                  [AV.agg
                      [goI (rdI (rowAt (List.map encS l) k) 0), goI (rdI (rowAt (List.map encS l) k) 1),
                        goI (rdI (rowAt (List.map encS l) k) 2), goB (rdB (rowAt (List.map encS l) k) 3)],
                    AV.agg
                      [goI (rdI (rowAt (List.map encS l) i) 0), goI (rdI (rowAt (List.map encS l) i) 1),
                        goI (rdI (rowAt (List.map encS l) i) 2), goB (rdB (rowAt (List.map encS l) i) 3)]]
                  [] =
                some
                  (goB
                      (U.meetR (rdI (rowAt (List.map encS l) k) 0) (rdI (rowAt (List.map encS l) k) 1)
                        (rdI (rowAt (List.map encS l) k) 2) (rdB (rowAt (List.map encS l) k) 3)
                        (rdI (rowAt (List.map encS l) i) 0) (rdI (rowAt (List.map encS l) i) 1)
                        (rdI (rowAt (List.map encS l) i) 2) (rdB (rowAt (List.map encS l) i) 3)),
                    [], []) ∧
              LoopTo Try.prog H (H 21) 0 (loopOf Try.prog 21 5)
                (mkS 43
                  [(0, AV.sl (List.map encS l)), (1, AV.sl (List.map encL hs)), (2, goI (↑i : Int)), (6, AV.pt 0 0 0),
                    (7, goI (↑n : Int)),
                    (8,
                      goB
                        !U.meetR (rdI (rowAt (List.map encS l) k) 0) (rdI (rowAt (List.map encS l) k) 1)
                            (rdI (rowAt (List.map encS l) k) 2) (rdB (rowAt (List.map encS l) k) 3)
                            (rdI (rowAt (List.map encS l) i) 0) (rdI (rowAt (List.map encS l) i) 1)
                            (rdI (rowAt (List.map encS l) i) 2) (rdB (rowAt (List.map encS l) i) 3)),
                    (9, goI (IntKind.wrap IntKind.i64 ((↑k : Int) + 1)))]
                  [Row.box [goI 0, goI 0]])
                r))
    (LoopTo Try.prog H (H 21) 0 (loopOf Try.prog 21 5)
      (mkS 43
        [(0, AV.sl (List.map encS l)), (1, AV.sl (List.map encL hs)), (2, goI (↑i : Int)), (6, AV.pt 0 0 0),
          (7, goI (↑n : Int)), (8, goB false), (9, goI (IntKind.wrap IntKind.i64 ((↑k : Int) + 1)))]
        [Row.box [goI 0, goI 0]])
      r))
  ((Ex.exit 2,
      mkS 43
        [(0, AV.sl (List.map encS l)), (1, AV.sl (List.map encL hs)), (2, goI (↑i : Int)), (6, AV.pt 0 0 0),
          (7, goI (↑n : Int)), (8, goB b)]
        [Row.box [goI 0, goI 0]]) =
    r)) := by kernel_rfl
theorem t10 (l : List Span) (hs : List Loc) (k : Int) (r : AV × List Row × List Nat) : (runT Try.prog H F10 (L10 hs) false 10 [AV.sl (List.map encS l), goI k] [] fun q => q = r) = (Wf Try.prog H 13 [AV.sl (List.map encS l)] [] = some (goB (U.rightR (List.map encS l)), [], []) ∧
  TB (!U.rightR (List.map encS l)) ((AV.tup [AV.sl [], goI 1], [], []) = r)
    (TB (decide (k < 0)) ((AV.tup [AV.sl [], goI 1], [], []) = r)
      (TB (decide (k > 32)) ((AV.tup [AV.sl [], goI 1], [], []) = r)
        ((0 ≤ (↑(List.length (List.map encS l)) : Int) ∧
            (↑(List.length (List.map encS l)) : Int) ≤ (↑(List.length (List.map encS l)) : Int) ∧
              (↑(List.length (List.map encS l)) : Int) ≤ (↑1000000 : Int)) ∧
          LoopTo Try.prog H (H 10) 0 (loopOf Try.prog 10 5)
              (mkS 170
                [(0, AV.sl (List.map encS l)), (1, goI k),
                  (6, AV.os 0 0 (List.length (List.replicate (List.length (List.map encS l)) [goI 0, goI 0]))),
                  (7, goI 0)]
                [Row.arr 2 (List.replicate (List.length (List.map encS l)) [goI 0, goI 0]), Row.dead])
              (Ex.exit 0, mkS 170 [(6, AV.os 0 0 (List.length hs))] [Row.arr 2 (List.map encL hs), Row.dead]) ∧
            (AV.tup [AV.os 0 0 (List.length hs), goI 0], [Row.arr 2 (List.map encL hs)], []) = r)))) := by kernel_rfl
theorem t10_5 (l : List Span) (hs : List Loc) (rs : List Int) (i : Nat) (f : Nat) (w : Int) (r : Ex × St) : (turnT Try.prog H F10 (L105 l hs rs i f w) false (H 10) 0 (loopOf Try.prog 10 5)
  (mkS 170
    [(0, AV.sl (List.map encS l)), (1, goI (↑(List.length rs) : Int)), (6, AV.os 0 0 (List.length hs)),
      (7, goI (↑i : Int))]
    [Row.arr 2 (List.map encL hs), Row.dead])
  r) = (TB (decide ((↑i : Int) < (↑(List.length (List.map encS l)) : Int)))
  ((0 ≤ (↑i : Int) ∧
      (List.map encS l)[i]? =
        some
          [goI (rdI (rowAt (List.map encS l) i) 0), goI (rdI (rowAt (List.map encS l) i) 1),
            goI (rdI (rowAt (List.map encS l) i) 2), goB (rdB (rowAt (List.map encS l) i) 3)]) ∧
    TB (rdB (rowAt (List.map encS l) i) 3)
      (Wf Try.prog H 21
            [AV.sl (List.map encS l), AV.sl (List.take (List.length hs) (List.drop 0 (List.map encL hs))),
              goI (↑i : Int)]
            [] =
          some
            (AV.agg
                [goI 2,
                  goI (U.slotR (List.map encS l) (List.take (List.length hs) (List.drop 0 (List.map encL hs))) i)],
              [], []) ∧
        (0 ≤ (↑i : Int) ∧ (↑i : Int) < (↑(List.length hs) : Int) ∧ 0 + i < List.length (List.map encL hs)) ∧
          Option.map List.length (List.map encL hs)[0 + i]? = some 2 ∧
            LoopTo Try.prog H (H 10) 0 (loopOf Try.prog 10 5)
              (mkS 170
                [(0, AV.sl (List.map encS l)), (1, goI (↑(List.length rs) : Int)), (6, AV.os 0 0 (List.length hs)),
                  (7, goI (IntKind.wrap IntKind.i64 ((↑i : Int) + 1)))]
                [Row.arr 2
                    (List.set (List.map encL hs) (0 + i)
                      [goI 2,
                        goI
                          (U.slotR (List.map encS l) (List.take (List.length hs) (List.drop 0 (List.map encL hs))) i)]),
                  Row.dead])
              r)
      ((0 ≤ (↑(List.length rs) : Int) ∧
          (↑(List.length rs) : Int) ≤ (↑(List.length rs) : Int) ∧ (↑(List.length rs) : Int) ≤ (↑1000000 : Int)) ∧
        LoopTo Try.prog H (H 10) 0 (loopOf Try.prog 10 12)
            (mkS 170
              [(0, AV.sl (List.map encS l)), (1, goI (↑(List.length rs) : Int)), (6, AV.os 0 0 (List.length hs)),
                (7, goI (↑i : Int)), (8, AV.os 1 0 (List.length (List.replicate (List.length rs) [goI 0]))),
                (9, goI (-1)), (10, goI (IntKind.wrap IntKind.i64 ((↑(List.length rs) : Int) - 1)))]
              [Row.arr 2 (List.map encL hs), Row.arr 1 (List.replicate (List.length rs) [goI 0])])
            (Ex.exit 2,
              mkS 170
                [(0, AV.sl (List.map encS l)), (1, goI (↑(List.length rs) : Int)), (6, AV.os 0 0 (List.length hs)),
                  (7, goI (↑i : Int)), (8, AV.os 1 0 (List.length rs)), (9, goI w)]
                [Row.arr 2 (List.map encL hs), Row.arr 1 (List.map encI rs)]) ∧
          TB (decide (w ≥ 0))
            ((0 ≤ (↑i : Int) ∧ (↑i : Int) < (↑(List.length hs) : Int) ∧ 0 + i < List.length (List.map encL hs)) ∧
              Option.map List.length (List.map encL hs)[0 + i]? = some 2 ∧
                LoopTo Try.prog H (H 10) 0 (loopOf Try.prog 10 5)
                  (mkS 170
                    [(0, AV.sl (List.map encS l)), (1, goI (↑(List.length rs) : Int)), (6, AV.os 0 0 (List.length hs)),
                      (7, goI (IntKind.wrap IntKind.i64 ((↑i : Int) + 1)))]
                    [Row.arr 2 (List.set (List.map encL hs) (0 + i) [goI 1, goI w]), Row.dead])
                  r)
            (LoopTo Try.prog H (H 10) 0 (loopOf Try.prog 10 26)
                (mkS 170
                  [(0, AV.sl (List.map encS l)), (1, goI (↑(List.length rs) : Int)), (6, AV.os 0 0 (List.length hs)),
                    (7, goI (↑i : Int)), (8, AV.os 1 0 (List.length rs)), (12, goI (↑i : Int)), (13, goI 0)]
                  [Row.arr 2 (List.map encL hs), Row.arr 1 (List.map encI rs)])
                (Ex.exit 6,
                  mkS 170
                    [(0, AV.sl (List.map encS l)), (1, goI (↑(List.length rs) : Int)), (6, AV.os 0 0 (List.length hs)),
                      (7, goI (↑i : Int)), (12, goI (↑f : Int))]
                    [Row.arr 2 (List.map encL hs), Row.arr 1 (List.map encI rs)]) ∧
              TB (!(↑f : Int) == (↑i : Int))
                ((0 ≤ (↑f : Int) ∧ (↑f : Int) < (↑(List.length hs) : Int) ∧ 0 + f < List.length (List.map encL hs)) ∧
                  cutAt 2 0 (List.map encL hs)[0 + f]? =
                      some
                        [goI (rdI (rowAt (List.map encL hs) (0 + f)) 0),
                          goI (rdI (rowAt (List.map encL hs) (0 + f)) 1)] ∧
                    (0 ≤ (↑i : Int) ∧ (↑i : Int) < (↑(List.length hs) : Int) ∧ 0 + i < List.length (List.map encL hs)) ∧
                      Option.map List.length (List.map encL hs)[0 + i]? = some 2 ∧
                        (0 ≤ (↑f : Int) ∧
                            (↑f : Int) < (↑(List.length hs) : Int) ∧
                              0 + f <
                                List.length
                                  (List.set (List.map encL hs) (0 + i)
                                    [goI (rdI (rowAt (List.map encL hs) (0 + f)) 0),
                                      goI (rdI (rowAt (List.map encL hs) (0 + f)) 1)])) ∧
                          Option.map List.length
                                (List.set (List.map encL hs) (0 + i)
                                    [goI (rdI (rowAt (List.map encL hs) (0 + f)) 0),
                                      goI (rdI (rowAt (List.map encL hs) (0 + f)) 1)])[0 + f]? =
                              some 2 ∧
                            Wf Try.prog H 21
                                  [AV.sl (List.map encS l),
                                    AV.sl
                                      (List.take (List.length hs)
                                        (List.drop 0
                                          (List.set
                                            (List.set (List.map encL hs) (0 + i)
                                              [goI (rdI (rowAt (List.map encL hs) (0 + f)) 0),
                                                goI (rdI (rowAt (List.map encL hs) (0 + f)) 1)])
                                            (0 + f) [goI 0, goI 0]))),
                                    goI (↑f : Int)]
                                  [] =
                                some
                                  (AV.agg
                                      [goI 2,
                                        goI
                                          (U.slotR (List.map encS l)
                                            (List.take (List.length hs)
                                              (List.drop 0
                                                (List.set
                                                  (List.set (List.map encL hs) (0 + i)
                                                    [goI (rdI (rowAt (List.map encL hs) (0 + f)) 0),
                                                      goI (rdI (rowAt (List.map encL hs) (0 + f)) 1)])
                                                  (0 + f) [goI 0, goI 0])))
                                            f)],
                                    [], []) ∧
                              (0 ≤ (↑f : Int) ∧
                                  (↑f : Int) < (↑(List.length hs) : Int) ∧
                                    0 + f <
                                      List.length
                                        (List.set
                                          (List.set (List.map encL hs) (0 + i)
                                            [goI (rdI (rowAt (List.map encL hs) (0 + f)) 0),
                                              goI (rdI (rowAt (List.map encL hs) (0 + f)) 1)])
                                          (0 + f) [goI 0, goI 0])) ∧
                                Option.map List.length
                                      (List.set
                                          (List.set (List.map encL hs) (0 + i)
                                            [goI (rdI (rowAt (List.map encL hs) (0 + f)) 0),
                                              goI (rdI (rowAt (List.map encL hs) (0 + f)) 1)])
                                          (0 + f) [goI 0, goI 0])[0 + f]? =
                                    some 2 ∧
                                  LoopTo Try.prog H (H 10) 0 (loopOf Try.prog 10 5)
                                    (mkS 170
                                      [(0, AV.sl (List.map encS l)), (1, goI (↑(List.length rs) : Int)),
                                        (6, AV.os 0 0 (List.length hs)),
                                        (7, goI (IntKind.wrap IntKind.i64 ((↑i : Int) + 1)))]
                                      [Row.arr 2
                                          (List.set
                                            (List.set
                                              (List.set (List.map encL hs) (0 + i)
                                                [goI (rdI (rowAt (List.map encL hs) (0 + f)) 0),
                                                  goI (rdI (rowAt (List.map encL hs) (0 + f)) 1)])
                                              (0 + f) [goI 0, goI 0])
                                            (0 + f)
                                            [goI 2,
                                              goI
                                                (U.slotR (List.map encS l)
                                                  (List.take (List.length hs)
                                                    (List.drop 0
                                                      (List.set
                                                        (List.set (List.map encL hs) (0 + i)
                                                          [goI (rdI (rowAt (List.map encL hs) (0 + f)) 0),
                                                            goI (rdI (rowAt (List.map encL hs) (0 + f)) 1)])
                                                        (0 + f) [goI 0, goI 0])))
                                                  f)]),
                                        Row.dead])
                                    r)
                (Wf Try.prog H 21
                      [AV.sl (List.map encS l), AV.sl (List.take (List.length hs) (List.drop 0 (List.map encL hs))),
                        goI (↑f : Int)]
                      [] =
                    some
                      (AV.agg
                          [goI 2,
                            goI
                              (U.slotR (List.map encS l) (List.take (List.length hs) (List.drop 0 (List.map encL hs)))
                                f)],
                        [], []) ∧
                  (0 ≤ (↑f : Int) ∧ (↑f : Int) < (↑(List.length hs) : Int) ∧ 0 + f < List.length (List.map encL hs)) ∧
                    Option.map List.length (List.map encL hs)[0 + f]? = some 2 ∧
                      LoopTo Try.prog H (H 10) 0 (loopOf Try.prog 10 5)
                        (mkS 170
                          [(0, AV.sl (List.map encS l)), (1, goI (↑(List.length rs) : Int)),
                            (6, AV.os 0 0 (List.length hs)), (7, goI (IntKind.wrap IntKind.i64 ((↑i : Int) + 1)))]
                          [Row.arr 2
                              (List.set (List.map encL hs) (0 + f)
                                [goI 2,
                                  goI
                                    (U.slotR (List.map encS l)
                                      (List.take (List.length hs) (List.drop 0 (List.map encL hs))) f)]),
                            Row.dead])
                        r))))
  ((Ex.exit 0, mkS 170 [(6, AV.os 0 0 (List.length hs))] [Row.arr 2 (List.map encL hs), Row.dead]) = r)) := by kernel_rfl
theorem t10_12 (l : List Span) (hs : List Loc) (qs : List Int) (rs : List Int) (i : Nat) (k : Int) (kn : Nat) (w : Int) (r : Ex × St) : (turnT Try.prog H F10 (L1012 l hs rs i kn w) false (H 10) 0 (loopOf Try.prog 10 12)
  (mkS 170
    [(0, AV.sl (List.map encS l)), (1, goI (↑(List.length qs) : Int)), (6, AV.os 0 0 (List.length hs)),
      (7, goI (↑i : Int)), (8, AV.os 1 0 (List.length qs)), (9, goI w), (10, goI k)]
    [Row.arr 2 (List.map encL hs), Row.arr 1 (List.map encI qs)])
  r) = (TB (decide (k ≥ 0))
  ((0 ≤ k ∧ k < (↑(List.length qs) : Int) ∧ 0 + Int.toNat k < List.length (List.map encI qs)) ∧
    Option.map List.length (List.map encI qs)[0 + Int.toNat k]? = some 1 ∧
      LoopTo Try.prog H (H 10) 0 (loopOf Try.prog 10 16)
          (mkS 170
            [(0, AV.sl (List.map encS l)), (1, goI (↑(List.length qs) : Int)), (6, AV.os 0 0 (List.length hs)),
              (7, goI (↑i : Int)), (8, AV.os 1 0 (List.length qs)), (9, goI w), (10, goI k), (11, goI 0)]
            [Row.arr 2 (List.map encL hs), Row.arr 1 (List.set (List.map encI qs) (0 + Int.toNat k) [goI (-1)])])
          (Ex.exit 4,
            mkS 170
              [(0, AV.sl (List.map encS l)), (1, goI (↑(List.length rs) : Int)), (6, AV.os 0 0 (List.length hs)),
                (7, goI (↑i : Int)), (8, AV.os 1 0 (List.length rs)), (9, goI w), (10, goI (↑kn : Int))]
              [Row.arr 2 (List.map encL hs), Row.arr 1 (List.map encI rs)]) ∧
        (0 ≤ (↑kn : Int) ∧ (↑kn : Int) < (↑(List.length rs) : Int) ∧ 0 + kn < List.length (List.map encI rs)) ∧
          cutAt 1 0 (List.map encI rs)[0 + kn]? = some [goI (rdI (rowAt (List.map encI rs) (0 + kn)) 0)] ∧
            TB (decide (rdI (rowAt (List.map encI rs) (0 + kn)) 0 < 0))
              (LoopTo Try.prog H (H 10) 0 (loopOf Try.prog 10 12)
                (mkS 170
                  [(0, AV.sl (List.map encS l)), (1, goI (↑(List.length rs) : Int)), (6, AV.os 0 0 (List.length hs)),
                    (7, goI (↑i : Int)), (8, AV.os 1 0 (List.length rs)), (9, goI (↑kn : Int)),
                    (10, goI (IntKind.wrap IntKind.i64 ((↑kn : Int) - 1)))]
                  [Row.arr 2 (List.map encL hs), Row.arr 1 (List.map encI rs)])
                r)
              (LoopTo Try.prog H (H 10) 0 (loopOf Try.prog 10 12)
                (mkS 170
                  [(0, AV.sl (List.map encS l)), (1, goI (↑(List.length rs) : Int)), (6, AV.os 0 0 (List.length hs)),
                    (7, goI (↑i : Int)), (8, AV.os 1 0 (List.length rs)), (9, goI w),
                    (10, goI (IntKind.wrap IntKind.i64 ((↑kn : Int) - 1)))]
                  [Row.arr 2 (List.map encL hs), Row.arr 1 (List.map encI rs)])
                r))
  ((Ex.exit 2,
      mkS 170
        [(0, AV.sl (List.map encS l)), (1, goI (↑(List.length qs) : Int)), (6, AV.os 0 0 (List.length hs)),
          (7, goI (↑i : Int)), (8, AV.os 1 0 (List.length qs)), (9, goI w)]
        [Row.arr 2 (List.map encL hs), Row.arr 1 (List.map encI qs)]) =
    r)) := by kernel_rfl
theorem t10_16 (l : List Span) (hs : List Loc) (qs : List Int) (i : Nat) (j : Nat) (k : Nat) (w : Int) (r : Ex × St) : (turnT Try.prog H F10 L0 false (H 10) 0 (loopOf Try.prog 10 16)
  (mkS 170
    [(0, AV.sl (List.map encS l)), (1, goI (↑(List.length qs) : Int)), (6, AV.os 0 0 (List.length hs)),
      (7, goI (↑i : Int)), (8, AV.os 1 0 (List.length qs)), (9, goI w), (10, goI (↑j : Int)), (11, goI (↑k : Int))]
    [Row.arr 2 (List.map encL hs), Row.arr 1 (List.map encI qs)])
  r) = (TB (decide ((↑k : Int) < (↑i : Int)))
  ((0 ≤ (↑k : Int) ∧ (↑k : Int) < (↑(List.length hs) : Int) ∧ 0 + k < List.length (List.map encL hs)) ∧
    cutAt 2 0 (List.map encL hs)[0 + k]? =
        some [goI (rdI (rowAt (List.map encL hs) (0 + k)) 0), goI (rdI (rowAt (List.map encL hs) (0 + k)) 1)] ∧
      TB
        (rdI (rowAt (List.map encL hs) (0 + k)) 0 == 1 &&
          (rdI (rowAt (List.map encL hs) (0 + k)) 1 == (↑j : Int) && true))
        ((0 ≤ (↑k : Int) ∧
            (List.map encS l)[k]? =
              some
                [goI (rdI (rowAt (List.map encS l) k) 0), goI (rdI (rowAt (List.map encS l) k) 1),
                  goI (rdI (rowAt (List.map encS l) k) 2), goB (rdB (rowAt (List.map encS l) k) 3)]) ∧
          (0 ≤ (↑i : Int) ∧
              (List.map encS l)[i]? =
                some
                  [goI (rdI (rowAt (List.map encS l) i) 0), goI (rdI (rowAt (List.map encS l) i) 1),
                    goI (rdI (rowAt (List.map encS l) i) 2), goB (rdB (rowAt (List.map encS l) i) 3)]) ∧
            TB (decide (rdI (rowAt (List.map encS l) k) 2 ≥ rdI (rowAt (List.map encS l) i) 1))
              ((0 ≤ (↑j : Int) ∧ (↑j : Int) < (↑(List.length qs) : Int) ∧ 0 + j < List.length (List.map encI qs)) ∧
                Option.map List.length (List.map encI qs)[0 + j]? = some 1 ∧
                  LoopTo Try.prog H (H 10) 0 (loopOf Try.prog 10 16)
                    (mkS 170
                      [(0, AV.sl (List.map encS l)), (1, goI (↑(List.length qs) : Int)),
                        (6, AV.os 0 0 (List.length hs)), (7, goI (↑i : Int)), (8, AV.os 1 0 (List.length qs)),
                        (9, goI w), (10, goI (↑j : Int)), (11, goI (IntKind.wrap IntKind.i64 ((↑k : Int) + 1)))]
                      [Row.arr 2 (List.map encL hs), Row.arr 1 (List.set (List.map encI qs) (0 + j) [goI (↑k : Int)])])
                    r)
              (LoopTo Try.prog H (H 10) 0 (loopOf Try.prog 10 16)
                (mkS 170
                  [(0, AV.sl (List.map encS l)), (1, goI (↑(List.length qs) : Int)), (6, AV.os 0 0 (List.length hs)),
                    (7, goI (↑i : Int)), (8, AV.os 1 0 (List.length qs)), (9, goI w), (10, goI (↑j : Int)),
                    (11, goI (IntKind.wrap IntKind.i64 ((↑k : Int) + 1)))]
                  [Row.arr 2 (List.map encL hs), Row.arr 1 (List.map encI qs)])
                r))
        (LoopTo Try.prog H (H 10) 0 (loopOf Try.prog 10 16)
          (mkS 170
            [(0, AV.sl (List.map encS l)), (1, goI (↑(List.length qs) : Int)), (6, AV.os 0 0 (List.length hs)),
              (7, goI (↑i : Int)), (8, AV.os 1 0 (List.length qs)), (9, goI w), (10, goI (↑j : Int)),
              (11, goI (IntKind.wrap IntKind.i64 ((↑k : Int) + 1)))]
            [Row.arr 2 (List.map encL hs), Row.arr 1 (List.map encI qs)])
          r))
  ((Ex.exit 4,
      mkS 170
        [(0, AV.sl (List.map encS l)), (1, goI (↑(List.length qs) : Int)), (6, AV.os 0 0 (List.length hs)),
          (7, goI (↑i : Int)), (8, AV.os 1 0 (List.length qs)), (9, goI w), (10, goI (↑j : Int))]
        [Row.arr 2 (List.map encL hs), Row.arr 1 (List.map encI qs)]) =
    r)) := by kernel_rfl
theorem t10_26 (l : List Span) (hs : List Loc) (rs : List Int) (i : Nat) (f : Nat) (k : Nat) (r : Ex × St) : (turnT Try.prog H F10 L0 false (H 10) 0 (loopOf Try.prog 10 26)
  (mkS 170
    [(0, AV.sl (List.map encS l)), (1, goI (↑(List.length rs) : Int)), (6, AV.os 0 0 (List.length hs)),
      (7, goI (↑i : Int)), (8, AV.os 1 0 (List.length rs)), (12, goI (↑f : Int)), (13, goI (↑k : Int))]
    [Row.arr 2 (List.map encL hs), Row.arr 1 (List.map encI rs)])
  r) = (TB (decide ((↑k : Int) < (↑(List.length rs) : Int)))
  ((0 ≤ (↑k : Int) ∧ (↑k : Int) < (↑(List.length rs) : Int) ∧ 0 + k < List.length (List.map encI rs)) ∧
    cutAt 1 0 (List.map encI rs)[0 + k]? = some [goI (rdI (rowAt (List.map encI rs) (0 + k)) 0)] ∧
      (0 ≤ rdI (rowAt (List.map encI rs) (0 + k)) 0 ∧
          (List.map encS l)[Int.toNat (rdI (rowAt (List.map encI rs) (0 + k)) 0)]? =
            some
              [goI (rdI (rowAt (List.map encS l) (Int.toNat (rdI (rowAt (List.map encI rs) (0 + k)) 0))) 0),
                goI (rdI (rowAt (List.map encS l) (Int.toNat (rdI (rowAt (List.map encI rs) (0 + k)) 0))) 1),
                goI (rdI (rowAt (List.map encS l) (Int.toNat (rdI (rowAt (List.map encI rs) (0 + k)) 0))) 2),
                goB (rdB (rowAt (List.map encS l) (Int.toNat (rdI (rowAt (List.map encI rs) (0 + k)) 0))) 3)]) ∧
        (0 ≤ (↑f : Int) ∧
            (List.map encS l)[f]? =
              some
                [goI (rdI (rowAt (List.map encS l) f) 0), goI (rdI (rowAt (List.map encS l) f) 1),
                  goI (rdI (rowAt (List.map encS l) f) 2), goB (rdB (rowAt (List.map encS l) f) 3)]) ∧
          TB
            (decide
              (rdI (rowAt (List.map encS l) (Int.toNat (rdI (rowAt (List.map encI rs) (0 + k)) 0))) 2 >
                rdI (rowAt (List.map encS l) f) 2))
            (LoopTo Try.prog H (H 10) 0 (loopOf Try.prog 10 26)
              (mkS 170
                [(0, AV.sl (List.map encS l)), (1, goI (↑(List.length rs) : Int)), (6, AV.os 0 0 (List.length hs)),
                  (7, goI (↑i : Int)), (8, AV.os 1 0 (List.length rs)),
                  (12, goI (rdI (rowAt (List.map encI rs) (0 + k)) 0)),
                  (13, goI (IntKind.wrap IntKind.i64 ((↑k : Int) + 1)))]
                [Row.arr 2 (List.map encL hs), Row.arr 1 (List.map encI rs)])
              r)
            ((0 ≤ rdI (rowAt (List.map encI rs) (0 + k)) 0 ∧
                (List.map encS l)[Int.toNat (rdI (rowAt (List.map encI rs) (0 + k)) 0)]? =
                  some
                    [goI (rdI (rowAt (List.map encS l) (Int.toNat (rdI (rowAt (List.map encI rs) (0 + k)) 0))) 0),
                      goI (rdI (rowAt (List.map encS l) (Int.toNat (rdI (rowAt (List.map encI rs) (0 + k)) 0))) 1),
                      goI (rdI (rowAt (List.map encS l) (Int.toNat (rdI (rowAt (List.map encI rs) (0 + k)) 0))) 2),
                      goB (rdB (rowAt (List.map encS l) (Int.toNat (rdI (rowAt (List.map encI rs) (0 + k)) 0))) 3)]) ∧
              (0 ≤ (↑f : Int) ∧
                  (List.map encS l)[f]? =
                    some
                      [goI (rdI (rowAt (List.map encS l) f) 0), goI (rdI (rowAt (List.map encS l) f) 1),
                        goI (rdI (rowAt (List.map encS l) f) 2), goB (rdB (rowAt (List.map encS l) f) 3)]) ∧
                TB
                  (rdI (rowAt (List.map encS l) (Int.toNat (rdI (rowAt (List.map encI rs) (0 + k)) 0))) 2 ==
                    rdI (rowAt (List.map encS l) f) 2)
                  ((0 ≤ rdI (rowAt (List.map encI rs) (0 + k)) 0 ∧
                      (List.map encS l)[Int.toNat (rdI (rowAt (List.map encI rs) (0 + k)) 0)]? =
                        some
                          [goI (rdI (rowAt (List.map encS l) (Int.toNat (rdI (rowAt (List.map encI rs) (0 + k)) 0))) 0),
                            goI
                              (rdI (rowAt (List.map encS l) (Int.toNat (rdI (rowAt (List.map encI rs) (0 + k)) 0))) 1),
                            goI
                              (rdI (rowAt (List.map encS l) (Int.toNat (rdI (rowAt (List.map encI rs) (0 + k)) 0))) 2),
                            goB
                              (rdB (rowAt (List.map encS l) (Int.toNat (rdI (rowAt (List.map encI rs) (0 + k)) 0)))
                                3)]) ∧
                    (0 ≤ (↑f : Int) ∧
                        (List.map encS l)[f]? =
                          some
                            [goI (rdI (rowAt (List.map encS l) f) 0), goI (rdI (rowAt (List.map encS l) f) 1),
                              goI (rdI (rowAt (List.map encS l) f) 2), goB (rdB (rowAt (List.map encS l) f) 3)]) ∧
                      TB
                        (decide
                          (rdI (rowAt (List.map encS l) (Int.toNat (rdI (rowAt (List.map encI rs) (0 + k)) 0))) 0 >
                            rdI (rowAt (List.map encS l) f) 0))
                        (LoopTo Try.prog H (H 10) 0 (loopOf Try.prog 10 26)
                          (mkS 170
                            [(0, AV.sl (List.map encS l)), (1, goI (↑(List.length rs) : Int)),
                              (6, AV.os 0 0 (List.length hs)), (7, goI (↑i : Int)), (8, AV.os 1 0 (List.length rs)),
                              (12, goI (rdI (rowAt (List.map encI rs) (0 + k)) 0)),
                              (13, goI (IntKind.wrap IntKind.i64 ((↑k : Int) + 1)))]
                            [Row.arr 2 (List.map encL hs), Row.arr 1 (List.map encI rs)])
                          r)
                        (LoopTo Try.prog H (H 10) 0 (loopOf Try.prog 10 26)
                          (mkS 170
                            [(0, AV.sl (List.map encS l)), (1, goI (↑(List.length rs) : Int)),
                              (6, AV.os 0 0 (List.length hs)), (7, goI (↑i : Int)), (8, AV.os 1 0 (List.length rs)),
                              (12, goI (↑f : Int)), (13, goI (IntKind.wrap IntKind.i64 ((↑k : Int) + 1)))]
                            [Row.arr 2 (List.map encL hs), Row.arr 1 (List.map encI rs)])
                          r))
                  (LoopTo Try.prog H (H 10) 0 (loopOf Try.prog 10 26)
                    (mkS 170
                      [(0, AV.sl (List.map encS l)), (1, goI (↑(List.length rs) : Int)),
                        (6, AV.os 0 0 (List.length hs)), (7, goI (↑i : Int)), (8, AV.os 1 0 (List.length rs)),
                        (12, goI (↑f : Int)), (13, goI (IntKind.wrap IntKind.i64 ((↑k : Int) + 1)))]
                      [Row.arr 2 (List.map encL hs), Row.arr 1 (List.map encI rs)])
                    r)))
  ((Ex.exit 6,
      mkS 170
        [(0, AV.sl (List.map encS l)), (1, goI (↑(List.length rs) : Int)), (6, AV.os 0 0 (List.length hs)),
          (7, goI (↑i : Int)), (12, goI (↑f : Int))]
        [Row.arr 2 (List.map encL hs), Row.arr 1 (List.map encI rs)]) =
    r)) := by kernel_rfl
theorem loop21_5 (l : List Span) (hs : List Loc) (i n : Nat) (hi : i < l.length) (hh : hs.length = l.length) (hl : l.length < 1000000) : ∀ (d k : Nat) (b : Bool), k + d = hs.length →
    LoopTo Try.prog H (H 21) 0 (loopOf Try.prog 21 5) (mkS 43 [(0, .sl (l.map encS)), (1, .sl (hs.map encL)), (2, goI i), (6, .pt 0 0 0), (7, goI n), (8, goB b), (9, goI k)] [.box [goI 0, goI 0]])
      (.exit 2, mkS 43 [(0, .sl (l.map encS)), (1, .sl (hs.map encL)), (2, goI i), (6, .pt 0 0 0), (7, goI n), (8, goB (b && !(U.takenFrom l hs i n k)))] [.box [goI 0, goI 0]])
  | 0, k, b, hd => by
    refine turnK (t21_5 l hs i n k b _) ?_
    have hk : k = hs.length := by omega
    subst hk
    have e : U.takenFrom l hs i n hs.length = false := by simp [U.takenFrom, allFrom_end]
    rw [List.length_map, decide_eq_false (by omega), e]
    cases b <;> exact rfl
  | d + 1, k, b, hd => by
    refine turnK (t21_5 l hs i n k b _) ?_
    have hk : k < hs.length := by omega
    have hkl : k < l.length := by omega
    have ih := loop21_5 l hs i n hi hh hl d (k + 1)
    rw [List.length_map, decide_eq_true (by omega), wrapS hk (by omega), rowL hk, getL hk, rowS hkl, getS hkl, rowS hi, getS hi, taken_step l hs i n hk]
    simp only [rdI, rdB, List.getD_cons_zero, List.getD_cons_succ, int_goI, bool_goB, Bool.and_true]
    have e1 : ((U.lc hs k).k == 2 && (U.lc hs k).n == (n : Int)) = decide (U.lc hs k = ⟨2, n⟩) := by rw [Bool.eq_iff_iff]; simp [Loc.eq_iff]
    have e2 : U.meetR (U.sp l k).v (U.sp l k).fr (U.sp l k).to (U.sp l k).call (U.sp l i).v (U.sp l i).fr (U.sp l i).to (U.sp l i).call = U.meet (U.sp l k) (U.sp l i) := rfl
    have h24 := wf24 (U.sp l k) (U.sp l i)
    rw [e1, e2]
    unfold U.takenAt
    cases b with
    | false => exact ih false (by omega)
    | true =>
      refine ⟨⟨by omega, by trivial⟩, ?_⟩
      cases decide (U.lc hs k = ⟨2, n⟩) with
      | false => exact ih true (by omega)
      | true =>
        refine ⟨⟨by omega, by trivial⟩, ⟨by omega, by trivial⟩, h24, ?_⟩
        cases U.meet (U.sp l k) (U.sp l i) with
        | true => exact ih false (by omega)
        | false => exact ih true (by omega)
theorem loop21_3 (l : List Span) (hs : List Loc) (i : Nat) (hi : i < l.length) (hh : hs.length = l.length) (hl : l.length < 100000) : ∀ (d n : Nat), n + d = U.slotOf l hs i →
    LoopTo Try.prog H (H 21) 0 (loopOf Try.prog 21 3) (mkS 43 [(0, .sl (l.map encS)), (1, .sl (hs.map encL)), (2, goI i), (6, .pt 0 0 0), (7, goI n)] [.box [goI 0, goI 0]])
      (.ret, mkS 43 [(6, .pt 0 0 0)] [.box [goI 2, goI (U.slotOf l hs i)]])
  | 0, n, hd => by
    obtain ⟨s1, s2, s3⟩ := slotOf_spec l hs i
    have hn : n = U.slotOf l hs i := by omega
    have h5 := loop21_5 l hs i n hi hh (by omega) hs.length 0 true (by omega)
    refine turnK (t21_3 l hs i n true _) ?_
    rw [← hn] at s2
    rw [s2] at h5
    refine ⟨h5, ?_⟩
    rw [← hn]
    exact rfl
  | d + 1, n, hd => by
    obtain ⟨s1, s2, s3⟩ := slotOf_spec l hs i
    have ih := loop21_3 l hs i hi hh hl d (n + 1) (by omega)
    have h5 := loop21_5 l hs i n hi hh (by omega) hs.length 0 true (by omega)
    refine turnK (t21_3 l hs i n false _) ?_
    rw [s3 n (by omega)] at h5
    have hwr : IntKind.i64.wrap ((n : Int) + 1) = ((n + 1 : Nat) : Int) := by rw [wrap64] <;> omega
    rw [hwr]
    exact ⟨h5, ih⟩
theorem wf21 (l : List Span) (hs : List Loc) (i : Nat) (hi : i < l.length) (hh : hs.length = l.length) (hl : l.length < 100000) : Wf Try.prog H 21 [.sl (l.map encS), .sl (hs.map encL), goI i] [] = some (.agg [goI 2, goI (U.slotOf l hs i)], [], []) :=
  runK (t21 l hs i (U.slotOf l hs i) _) ⟨loop21_3 l hs i hi hh hl (U.slotOf l hs i) 0 (by omega), rfl⟩
/-- Who has each register, told by the locations. -/
def WhoAt (l : List Span) (hs : List Loc) (rs : List Int) (i : Nat) : Prop :=
  ∀ r : Nat, r < rs.length → (U.nt rs r = -1 ∨ (0 ≤ U.nt rs r ∧ U.nt rs r < i)) ∧ ∀ k : Nat, k < i → ((U.lc hs k = ⟨1, r⟩ ∧ (U.sp l i).fr ≤ (U.sp l k).to) ↔ U.nt rs r = k)
theorem nt_set (rs : List Int) {i : Nat} (v : Int) (h : i < rs.length) : U.nt (rs.set i v) i = v := by
  unfold U.nt; rw [List.getD_eq_getElem?_getD, List.getElem?_set_self h]; rfl
theorem set_nt (rs : List Int) {i : Nat} (h : i < rs.length) : rs.set i (U.nt rs i) = rs := by
  unfold U.nt; rw [List.getD_eq_getElem?_getD, List.getElem?_eq_getElem h]; simp
theorem loop10_16 (l : List Span) (hs : List Loc) (i : Nat) (w : Int) (j : Nat) (W : Int) (hi : i < l.length) (hh : hs.length = l.length) (hl : l.length < 1000000) (hW1 : W = -1 ∨ (0 ≤ W ∧ W < i))
    (hW : ∀ k : Nat, k < i → ((U.lc hs k = ⟨1, j⟩ ∧ (U.sp l i).fr ≤ (U.sp l k).to) ↔ W = k)) : ∀ (d k : Nat) (qs : List Int), k + d = i → j < qs.length → U.nt qs j = (if 0 ≤ W ∧ W < k then W else -1) →
    LoopTo Try.prog H (H 10) 0 (loopOf Try.prog 10 16) (mkS 170 [(0, .sl (l.map encS)), (1, goI qs.length), (6, .os 0 0 hs.length), (7, goI i), (8, .os 1 0 qs.length), (9, goI w), (10, goI j), (11, goI k)] [.arr 2 (hs.map encL), .arr 1 (qs.map encI)])
      (.exit 4, mkS 170 [(0, .sl (l.map encS)), (1, goI qs.length), (6, .os 0 0 hs.length), (7, goI i), (8, .os 1 0 qs.length), (9, goI w), (10, goI j)] [.arr 2 (hs.map encL), .arr 1 ((qs.set j W).map encI)])
  | 0, k, qs, hd, hj, hq => by
    refine turnK (t10_16 l hs qs i j k w _) ?_
    have e : U.nt qs j = W := by
      rw [hq]; split
      · rfl
      · omega
    rw [decide_eq_false (by omega), ← e, set_nt qs hj]
    exact rfl
  | d + 1, k, qs, hd, hj, hq => by
    have hk : k < i := by omega
    have hkh : k < hs.length := by omega
    have hkl : k < l.length := by omega
    have ih := loop10_16 l hs i w j W hi hh hl hW1 hW d (k + 1)
    refine turnK (t10_16 l hs qs i j k w _) ?_
    rw [decide_eq_true (by omega), wrapS hk (by omega), Nat.zero_add, Nat.zero_add, rowL hkh, getL hkh, rowS hkl, getS hkl, rowS hi, getS hi, set_mapI]
    simp only [rdI, rdB, List.getD_cons_zero, List.getD_cons_succ, int_goI, bool_goB, Bool.and_true]
    have e1 : ((U.lc hs k).k == 1 && (U.lc hs k).n == (j : Int)) = decide (U.lc hs k = ⟨1, j⟩) := by rw [Bool.eq_iff_iff]; simp [Loc.eq_iff]
    rw [e1]
    have hWk := hW k hk
    have hno : W ≠ (k : Int) → U.nt qs j = (if 0 ≤ W ∧ W < ((k + 1 : Nat) : Int) then W else -1) := fun hne => by
      rw [hq]
      by_cases hc : 0 ≤ W ∧ W < (k : Int)
      · rw [if_pos hc, if_pos ⟨hc.1, by omega⟩]
      · rw [if_neg hc, if_neg (by omega)]
    refine ⟨⟨by omega, by omega, by rw [List.length_map]; exact hkh⟩, by rfl, ?_⟩
    by_cases h1 : U.lc hs k = ⟨1, j⟩
    · rw [decide_eq_true h1]
      refine ⟨⟨by omega, by trivial⟩, ⟨by omega, by trivial⟩, ?_⟩
      by_cases h2 : (U.sp l k).to ≥ (U.sp l i).fr
      · have hWe := hWk.1 ⟨h1, h2⟩
        rw [decide_eq_true h2]
        have ih' := ih (qs.set j (k : Int)) (by omega) (by rw [List.length_set]; exact hj) (by rw [nt_set qs _ hj, if_pos (by omega)]; omega)
        rw [List.length_set, List.set_set] at ih'
        exact ⟨⟨by omega, by omega, by rw [List.length_map]; exact hj⟩, by rw [getI hj]; rfl, ih'⟩
      · rw [decide_eq_false h2]
        exact ih qs (by omega) hj (hno (fun e => h2 (hWk.2 e).2))
    · rw [decide_eq_false h1]
      exact ih qs (by omega) hj (hno (fun e => h1 (hWk.2 e).1))
/-- The last ones of who has registers. -/
def tailW (rs : List Int) (d : Nat) : List Int := List.replicate d 0 ++ rs.drop d
theorem tailW_len (rs : List Int) {d : Nat} (h : d ≤ rs.length) : (tailW rs d).length = rs.length := by simp [tailW]; omega
theorem tailW_set (rs : List Int) {d : Nat} (h : d < rs.length) : (tailW rs (d + 1)).set d (U.nt rs d) = tailW rs d := by
  unfold tailW U.nt
  rw [List.replicate_succ', List.append_assoc, List.set_append_right _ _ (by simp), List.length_replicate, Nat.sub_self, List.drop_eq_getElem_cons h, List.getD_eq_getElem?_getD, List.getElem?_eq_getElem h]
  rfl
theorem tailW_nt (rs : List Int) {d : Nat} (h : d < rs.length) : U.nt (tailW rs d) d = U.nt rs d := by
  unfold U.nt tailW
  rw [List.getD_eq_getElem?_getD, List.getElem?_append_right (by simp), List.length_replicate, Nat.sub_self, List.getElem?_drop, Nat.add_zero, List.getD_eq_getElem?_getD]
theorem loop10_12 (l : List Span) (hs : List Loc) (rs : List Int) (i : Nat) (hi : i < l.length) (hh : hs.length = l.length) (hl : l.length < 1000000) (hrl : rs.length ≤ 32) (hw : WhoAt l hs rs i) : ∀ (d : Nat), d ≤ rs.length →
    LoopTo Try.prog H (H 10) 0 (loopOf Try.prog 10 12) (mkS 170 [(0, .sl (l.map encS)), (1, goI rs.length), (6, .os 0 0 hs.length), (7, goI i), (8, .os 1 0 rs.length), (9, goI (U.firstOf (fun j => decide (U.nt rs j = -1)) (rs.length - d) d)), (10, goI ((d : Int) - 1))] [.arr 2 (hs.map encL), .arr 1 ((tailW rs d).map encI)])
      (.exit 2, mkS 170 [(0, .sl (l.map encS)), (1, goI rs.length), (6, .os 0 0 hs.length), (7, goI i), (8, .os 1 0 rs.length), (9, goI (U.idxI rs (-1)))] [.arr 2 (hs.map encL), .arr 1 (rs.map encI)])
  | 0, hd => by
    have h := t10_12 l hs (tailW rs 0) rs i (((0 : Nat) : Int) - 1) 0 (U.firstOf (fun j => decide (U.nt rs j = -1)) (rs.length - 0) 0) (.exit 2, mkS 170 [(0, .sl (l.map encS)), (1, goI rs.length), (6, .os 0 0 hs.length), (7, goI i), (8, .os 1 0 rs.length), (9, goI (U.idxI rs (-1)))] [.arr 2 (hs.map encL), .arr 1 (rs.map encI)])
    have e : tailW rs 0 = rs := rfl
    rw [e] at h ⊢
    refine turnK h ?_
    rw [decide_eq_false (by omega)]
    exact rfl
  | d + 1, hd => by
    have hdl : d < rs.length := by omega
    have ih := loop10_12 l hs rs i hi hh hl hrl hw d (by omega)
    obtain ⟨hw1, hw2⟩ := hw d hdl
    have hlen := tailW_len rs hd
    have hlen' := tailW_len rs (show d ≤ rs.length by omega)
    have h16 := loop10_16 l hs i (U.firstOf (fun j => decide (U.nt rs j = -1)) (rs.length - (d + 1)) (d + 1)) d (U.nt rs d) hi hh hl hw1 hw2 i 0 ((tailW rs (d + 1)).set d (-1)) (by omega) (by rw [List.length_set]; omega) (by rw [nt_set _ _ (by omega), if_neg (by omega)])
    rw [List.length_set, List.set_set, tailW_set rs hdl, hlen] at h16
    have ek : ((d + 1 : Nat) : Int) - 1 = (d : Int) := by omega
    have h := t10_12 l hs (tailW rs (d + 1)) (tailW rs d) i (((d + 1 : Nat) : Int) - 1) d (U.firstOf (fun j => decide (U.nt rs j = -1)) (rs.length - (d + 1)) (d + 1)) (.exit 2, mkS 170 [(0, .sl (l.map encS)), (1, goI rs.length), (6, .os 0 0 hs.length), (7, goI i), (8, .os 1 0 rs.length), (9, goI (U.idxI rs (-1)))] [.arr 2 (hs.map encL), .arr 1 (rs.map encI)])
    rw [ek, hlen, hlen'] at h
    rw [ek]
    refine turnK h ?_
    have hdt : d < (tailW rs d).length := by omega
    have hwr : IntKind.i64.wrap ((d : Int) - 1) = (d : Int) - 1 := by rw [wrap64] <;> omega
    rw [decide_eq_true (by omega), Int.toNat_natCast, Nat.zero_add, set_mapI, rowI hdt, getI hdt, tailW_nt rs hdl, hwr]
    simp only [rdI, List.getD_cons_zero, int_goI]
    refine ⟨⟨by omega, by omega, by rw [List.length_map]; omega⟩, by rw [getI (by omega)]; rfl, h16, ⟨by omega, by omega, by rw [List.length_map]; exact hdt⟩, by rfl, ?_⟩
    have ef : U.firstOf (fun j => decide (U.nt rs j = -1)) (rs.length - d) d = if decide (U.nt rs d = -1) then (d : Int) else U.firstOf (fun j => decide (U.nt rs j = -1)) (rs.length - (d + 1)) (d + 1) := by
      rw [show rs.length - d = rs.length - (d + 1) + 1 from by omega, firstOf_step]
    rw [ef] at ih
    by_cases hn : U.nt rs d = -1
    · rw [decide_eq_true hn, if_pos rfl] at ih
      rw [decide_eq_true (show U.nt rs d < 0 by omega)]
      exact ih
    · rw [decide_eq_false hn, if_neg (by simp)] at ih
      rw [decide_eq_false (show ¬ U.nt rs d < 0 by omega)]
      exact ih
theorem pick_fst (l : List Span) : ∀ (rs : List Int) (r r' f : Nat) (a a' : Int), (U.pick l rs r f a).1 = (U.pick l rs r' f a').1
  | [], _, _, _, _, _ => rfl
  | k :: rs, r, r', f, a, a' => by
    simp only [U.pick]
    split
    · exact pick_fst l rs _ _ _ _ _
    · exact pick_fst l rs _ _ _ _ _
theorem loop10_26 (l : List Span) (hs : List Loc) (rs : List Int) (i : Nat) (hrl : rs.length ≤ 32) (hr : ∀ k ∈ rs, 0 ≤ k ∧ k < l.length) : ∀ (d k f : Nat), k + d = rs.length → f < l.length →
    LoopTo Try.prog H (H 10) 0 (loopOf Try.prog 10 26) (mkS 170 [(0, .sl (l.map encS)), (1, goI rs.length), (6, .os 0 0 hs.length), (7, goI i), (8, .os 1 0 rs.length), (12, goI f), (13, goI k)] [.arr 2 (hs.map encL), .arr 1 (rs.map encI)])
      (.exit 6, mkS 170 [(0, .sl (l.map encS)), (1, goI rs.length), (6, .os 0 0 hs.length), (7, goI i), (12, goI ((U.pick l (rs.drop k) 0 f (-1)).1 : Nat))] [.arr 2 (hs.map encL), .arr 1 (rs.map encI)])
  | 0, k, f, hd, hf => by
    refine turnK (t10_26 l hs rs i f k _) ?_
    rw [decide_eq_false (by omega), List.drop_eq_nil_of_le (by omega)]
    exact rfl
  | d + 1, k, f, hd, hf => by
    have hk : k < rs.length := by omega
    refine turnK (t10_26 l hs rs i f k _) ?_
    have hrk := hr _ (nt_mem hk)
    obtain ⟨w, hw⟩ : ∃ w : Nat, U.nt rs k = w := ⟨(U.nt rs k).toNat, by omega⟩
    rw [hw] at hrk
    have hwl : w < l.length := by omega
    have ed : rs.drop k = (w : Int) :: rs.drop (k + 1) := by rw [drop_cons' rs hk, ← hw]; rfl
    have ep : (U.pick l ((w : Int) :: rs.drop (k + 1)) 0 f (-1)).1 = if U.far l w f then (U.pick l (rs.drop (k + 1)) 0 w (-1)).1 else (U.pick l (rs.drop (k + 1)) 0 f (-1)).1 := by
      simp only [U.pick, Int.toNat_natCast]
      split
      · exact pick_fst l _ _ _ _ _ _
      · exact pick_fst l _ _ _ _ _ _
    have i1 := loop10_26 l hs rs i hrl hr d (k + 1) w (by omega) hwl
    have i2 := loop10_26 l hs rs i hrl hr d (k + 1) f (by omega) hf
    rw [decide_eq_true (by omega), wrapS hk (by omega), Nat.zero_add, rowI hk, getI hk, hw, ed, ep]
    simp only [rdI, List.getD_cons_zero, int_goI, Int.toNat_natCast]
    rw [rowS hwl, getS hwl, rowS hf, getS hf]
    simp only [rdI, rdB, List.getD_cons_zero, List.getD_cons_succ, int_goI, bool_goB]
    refine ⟨⟨by omega, by omega, by rw [List.length_map]; exact hk⟩, by rfl, ⟨by omega, by trivial⟩, ⟨by omega, by trivial⟩, ?_⟩
    unfold U.far
    by_cases h1 : (U.sp l w).to > (U.sp l f).to
    · rw [decide_eq_true h1]; exact i1
    · rw [decide_eq_false h1]
      refine ⟨⟨by omega, by trivial⟩, ⟨by omega, by trivial⟩, ?_⟩
      cases (U.sp l w).to == (U.sp l f).to with
      | false => exact i2
      | true =>
        refine ⟨⟨by omega, by trivial⟩, ⟨by omega, by trivial⟩, ?_⟩
        cases decide ((U.sp l w).v > (U.sp l f).v) with
        | true => exact i1
        | false => exact i2
theorem pick_cases (l : List Span) : ∀ (rs : List Int) (r f : Nat) (a : Int), U.pick l rs r f a = (f, a) ∨ ∃ q, q < rs.length ∧ U.pick l rs r f a = ((U.nt rs q).toNat, ((r + q : Nat) : Int))
  | [], _, _, _ => .inl rfl
  | k :: rs, r, f, a => by
    simp only [U.pick]
    split
    · rcases pick_cases l rs (r + 1) k.toNat r with h | ⟨q, h1, h2⟩
      · exact .inr ⟨0, by simp, by rw [h]; rfl⟩
      · exact .inr ⟨q + 1, by simp; omega, by rw [h2, show r + 1 + q = r + (q + 1) from by omega]; rfl⟩
    · rcases pick_cases l rs (r + 1) f a with h | ⟨q, h1, h2⟩
      · exact .inl h
      · exact .inr ⟨q + 1, by simp; omega, by rw [h2, show r + 1 + q = r + (q + 1) from by omega]; rfl⟩
set_option maxHeartbeats 1000000 in
theorem loop10_5 (l : List Span) (n : Nat) (hl : l.length ≤ 48) (hn : n ≤ 32) (hw : ∀ i, i < l.length → WhoAt l (U.upTo l n i).1 (U.expire l (U.sp l i).fr (U.upTo l n i).2) i) : ∀ (d i : Nat), i + d = l.length →
    LoopTo Try.prog H (H 10) 0 (loopOf Try.prog 10 5) (mkS 170 [(0, .sl (l.map encS)), (1, goI n), (6, .os 0 0 l.length), (7, goI i)] [.arr 2 ((U.upTo l n i).1.map encL), .dead])
      (.exit 0, mkS 170 [(6, .os 0 0 l.length)] [.arr 2 ((U.scan l n).map encL), .dead])
  | 0, i, hd => by
    obtain ⟨h1, h2⟩ := upTo_len l n i
    have h := t10_5 l (U.upTo l n i).1 (U.upTo l n i).2 i 0 0 (.exit 0, mkS 170 [(6, .os 0 0 l.length)] [.arr 2 ((U.scan l n).map encL), .dead])
    rw [h1, h2] at h
    refine turnK h ?_
    have hi : i = l.length := by omega
    subst hi
    rw [List.length_map, decide_eq_false (by omega)]
    exact rfl
  | d + 1, i, hd => by
    have hi : i < l.length := by omega
    have ih := loop10_5 l n hl hn hw d (i + 1) (by omega)
    obtain ⟨h1, h2⟩ := upTo_len l n i
    have hwi := hw i hi
    have e1 : U.upTo l n (i + 1) = U.place l i (U.upTo l n i).1 (U.upTo l n i).2 := rfl
    have hr1 := expire_ok (p := (U.sp l i).fr) (upTo_regs l n i (by omega))
    have hlen1 := (expire_len l (U.sp l i).fr (U.upTo l n i).2).trans h2
    rw [e1] at ih
    unfold U.place at ih
    generalize (U.upTo l n i).1 = hs at *
    generalize U.expire l (U.sp l i).fr (U.upTo l n i).2 = rs at *
    have eslot : ∀ (gs : List Loc) (j : Nat), U.slotR (l.map encS) (gs.map encL) j = U.slotOf l gs j := fun gs j => by unfold U.slotR; rw [decS_map, decL_map]
    have hset2 : ∀ (gs : List Loc) (j : Nat) (x : Loc), (gs.map encL).set j [goI x.k, goI x.n] = (gs.set j x).map encL := fun gs j x => set_map encL gs j x
    have htk : ∀ gs : List Loc, gs.length = l.length → List.take l.length (List.drop 0 (gs.map encL)) = gs.map encL := fun gs hg => by rw [← hg]; exact take_map encL gs
    have hih : i < hs.length := by omega
    have h := t10_5 l hs rs i (U.pick l rs 0 i (-1)).1 (U.idxI rs (-1)) (.exit 0, mkS 170 [(6, .os 0 0 l.length)] [.arr 2 ((U.scan l n).map encL), .dead])
    rw [h1, hlen1] at h
    refine turnK h ?_
    rw [List.length_map, decide_eq_true (by omega), wrapS hi (by omega), rowS hi, getS hi, Nat.zero_add, htk hs h1, eslot]
    simp only [rdI, rdB, List.getD_cons_zero, List.getD_cons_succ, int_goI, bool_goB]
    refine ⟨⟨by omega, by trivial⟩, ?_⟩
    cases hc : (U.sp l i).call with
    | true =>
      rw [hc, if_pos rfl] at ih
      rw [hset2 hs i ⟨2, U.slotOf l hs i⟩]
      exact ⟨wf21 l hs i hi h1 (by omega), ⟨by omega, by omega, by rw [List.length_map]; exact hih⟩, by rw [getL hih]; rfl, ih⟩
    | false =>
      rw [hc, if_neg (by simp)] at ih
      have h12 := loop10_12 l hs rs i hi h1 (by omega) (by omega) hwi rs.length (Nat.le_refl _)
      have ew : tailW rs rs.length = List.replicate rs.length 0 := by simp [tailW]
      have ef : U.firstOf (fun j => decide (U.nt rs j = -1)) (rs.length - rs.length) rs.length = -1 := by rw [Nat.sub_self]; rfl
      have er : (List.replicate rs.length (0 : Int)).map encI = List.replicate rs.length [goI 0] := List.map_replicate
      rw [ew, ef, er, hlen1, h1] at h12
      have hwr : IntKind.i64.wrap ((n : Int) - 1) = (n : Int) - 1 := by rw [wrap64] <;> omega
      rw [List.length_replicate, hwr]
      refine ⟨⟨by omega, by omega, by omega⟩, h12, ?_⟩
      by_cases hx : 0 ≤ U.idxI rs (-1)
      · rw [if_pos hx] at ih
        rw [decide_eq_true (show U.idxI rs (-1) ≥ 0 from hx), hset2 hs i ⟨1, U.idxI rs (-1)⟩]
        exact ⟨⟨by omega, by omega, by rw [List.length_map]; exact hih⟩, by rw [getL hih]; rfl, ih⟩
      · rw [if_neg hx] at ih
        rw [decide_eq_false (show ¬ U.idxI rs (-1) ≥ 0 from hx)]
        have hne : ∀ r : Nat, r < rs.length → 0 ≤ U.nt rs r ∧ U.nt rs r < i := fun r hr => by
          rcases (hwi r hr).1 with h | h
          · exact absurd (firstOf_ge (fun j => decide (U.nt rs j = -1)) rs.length 0 r (Nat.zero_le _) (by omega) (decide_eq_true h)) hx
          · exact h
        have hall : ∀ k ∈ rs, 0 ≤ k ∧ k < l.length := fun k hk => by
          obtain ⟨j, hj, hje⟩ := mem_getD (K := rs) hk
          have := hne j hj
          have e : U.nt rs j = k := hje
          rw [e] at this
          omega
        have h26 := loop10_26 l hs rs i (by omega) hall rs.length 0 i (by omega) hi
        rw [List.drop_zero, hlen1, h1] at h26
        refine ⟨h26, ?_⟩
        rcases pick_cases l rs 0 i (-1) with hp | ⟨q, hq, hp⟩
        · rw [hp] at ih ⊢
          have e3 : ((i : Int) == (i : Int)) = true := beq_self_eq_true _
          simp only [Nat.zero_add]
          rw [e3, eslot]
          rw [if_neg (by simp)] at ih
          rw [hset2 hs i ⟨2, U.slotOf l hs i⟩]
          exact ⟨wf21 l hs i hi h1 (by omega), ⟨by omega, by omega, by rw [List.length_map]; exact hih⟩, by rw [getL hih]; rfl, ih⟩
        · obtain ⟨hq1, hq2⟩ := hne q hq
          obtain ⟨f, hf⟩ : ∃ f : Nat, U.nt rs q = f := ⟨(U.nt rs q).toNat, by omega⟩
          rw [hf, Int.toNat_natCast] at hp
          rw [hp] at ih ⊢
          have hfi : f < i := by omega
          have hfh : f < hs.length := by omega
          have e3 : ((f : Int) == (i : Int)) = false := beq_eq_false_iff_ne.2 (by omega)
          simp only [Nat.zero_add]
          rw [e3]
          simp only at ih
          rw [if_pos (by omega)] at ih
          rw [rowL hfh, getL hfh]
          simp only [List.getD_cons_zero, List.getD_cons_succ, int_goI]
          have g1 : (hs.map encL).set i [goI (U.lc hs f).k, goI (U.lc hs f).n] = (hs.set i (U.lc hs f)).map encL := hset2 hs i _
          have g2 : ((hs.set i (U.lc hs f)).map encL).set f [goI 0, goI 0] = ((hs.set i (U.lc hs f)).set f ⟨0, 0⟩).map encL := hset2 _ f ⟨0, 0⟩
          have hsl : ((hs.set i (U.lc hs f)).set f ⟨0, 0⟩).length = l.length := by rw [List.length_set, List.length_set]; exact h1
          rw [g1, g2, htk _ hsl, eslot, hset2 _ f ⟨2, U.slotOf l ((hs.set i (U.lc hs f)).set f ⟨0, 0⟩) f⟩]
          refine ⟨⟨by omega, by omega, by rw [List.length_map]; exact hfh⟩, by rfl, ⟨by omega, by omega, by rw [List.length_map]; exact hih⟩, by rw [getL hih]; rfl, ⟨by omega, by omega, by rw [List.length_map, List.length_set]; exact hfh⟩, by rw [getL (by rw [List.length_set]; exact hfh)]; rfl, wf21 l _ f (by omega) hsl (by omega), ⟨by omega, by omega, by rw [List.length_map, List.length_set, List.length_set]; exact hfh⟩, ?_, ih⟩
          rw [getL (by rw [List.length_set, List.length_set]; exact hfh)]; rfl
theorem wf10_no (l : List Span) (k : Int) (h : (decide (k < 0) || (decide (k > 32) || !(U.right l))) = true) : Wf Try.prog H 10 [.sl (l.map encS), goI k] [] = some (.tup [.sl [], goI 1], [], []) := by
  refine runK (t10 l [] k _) ?_
  have h13 := wf13 l
  have e : U.rightR (l.map encS) = U.right l := by unfold U.rightR; rw [decS_map]
  rw [e]
  refine ⟨h13, ?_⟩
  cases h3 : U.right l with
  | false => exact rfl
  | true =>
    rw [h3] at h
    cases h1 : decide (k < 0) with
    | true => exact rfl
    | false =>
      cases h2 : decide (k > 32) with
      | true => exact rfl
      | false => rw [h1, h2] at h; exact absurd h (by simp)
theorem wf10 (l : List Span) (n : Nat) (hn : n ≤ 32) (h : U.right l = true) (hw : ∀ i, i < l.length → WhoAt l (U.upTo l n i).1 (U.expire l (U.sp l i).fr (U.upTo l n i).2) i) : Wf Try.prog H 10 [.sl (l.map encS), goI (n : Int)] [] = some (.tup [.os 0 0 l.length, goI 0], [.arr 2 ((U.scan l n).map encL)], []) := by
  have hl := right_len h
  have hsl : (U.scan l n).length = l.length := (upTo_len l n l.length).1
  have ht := t10 l (U.scan l n) n (.tup [.os 0 0 l.length, goI 0], [.arr 2 ((U.scan l n).map encL)], [])
  rw [hsl] at ht
  refine runK ht ?_
  have h13 := wf13 l
  have e : U.rightR (l.map encS) = U.right l := by unfold U.rightR; rw [decS_map]
  rw [e]
  rw [h] at h13 ⊢
  have h5 := loop10_5 l n hl hn hw l.length 0 (by omega)
  have e1 : ((U.upTo l n 0).1.map encL) = List.replicate l.length [goI 0, goI 0] := List.map_replicate
  rw [e1] at h5
  rw [decide_eq_false (by omega), decide_eq_false (by omega), List.length_map, List.length_replicate]
  exact ⟨h13, ⟨by omega, by omega, by omega⟩, h5, rfl⟩
end Go.Proofs.Ythbkemkjkpaoaac.E
