/- Functions, by what the evaluator asks; the theorems t.. were printed by show.txt, a program of this session. -/
import Derived.Test.Ythbkemkjkpaoaac16c
set_option linter.unusedVariables false
set_option linter.unusedSimpArgs false
set_option maxRecDepth 100000
namespace Go.Proofs.Ythbkemkjkpaoaac.E
open Go
namespace U
def slots1 (n : Int) (x : Loc) : Int := if x.k = 2 ∧ x.n < 1099511627776 then (if n < x.n + 1 then x.n + 1 else n) else n
def slots (l : List Loc) : Int := l.foldl slots1 0
def clashAt (s : List Span) (l : List Loc) (i k : Nat) : Bool := decide (lc l i = lc l k) && (!(decide ((lc l i).k = 0)) && meet (sp s i) (sp s k))
def clashIn (s : List Span) (l : List Loc) (i k : Nat) : Bool := !(allFrom (fun j => !(clashAt s l i j)) k i)
def clashFrom (s : List Span) (l : List Loc) (n i : Nat) : Bool := !(allFrom (fun j => !(clashIn s l j 0)) i n)
end U
def L17 (b : Bool) : Nat → St → LT := fun id st => .by b (.is .ret (mkS 54 [(4, goB true)] [.dead, .dead])) (.is (.exit 0) (mkS 54 [] [.dead, .dead]))
def L173 (s : List Span) (l : List Loc) (m : List (List AV)) (x : Loc) (n i : Nat) (b : Bool) : Nat → St → LT := fun id st => .by b (.is .ret (mkS 54 [(4, goB true)] [.dead, .dead])) (.is (.exit 2) (mkS 54 [(0, .sl (s.map encS)), (1, .sl (l.map encL)), (17, .sl m), (18, goI n), (19, goI i)] [.box (encL x), .dead]))
def L18 (b : Bool) : Nat → St → LT := fun id st => .by b (.is .ret (mkS 51 [(4, goB true)])) (.is (.exit 0) (mkS 51 []))
def L183 (s : List Span) (l : List Loc) (n i : Nat) (b : Bool) : Nat → St → LT := fun id st => .by b (.is .ret (mkS 51 [(4, goB true)])) (.is (.exit 2) (mkS 51 [(0, .sl (s.map encS)), (1, .sl (l.map encL)), (5, goI n), (6, goI i)]))
namespace U
def slotsR (l : List (List AV)) : Int := slots (decL l)
def clashR (s l : List (List AV)) : Bool := clashFrom (decS s) (decL l) (min (decS s).length (decL l).length) 0
end U
def F6 : CallT := fun f args sto => match f, args with
 | 8, _ => .is (goB true, [], [])
 | 15, [.sl l] => .is (goI (U.slotsR l), [], [])
 | 16, [.sl l] => .is (goI (U.slotsR l), [], [])
 | 17, [.sl s, .sl l] => .is (goB (U.clashR s l), [], [])
 | 18, [.sl s, .sl l] => .is (goB (U.clashR s l), [], [])
 | _, _ => .no

theorem t15 (l : List Loc) (v : Int) (r : AV × List Row × List Nat) : (runT Try.prog H (fun f args sto => CT.of (F0 f args sto))
  (fun id st => LT.is (Ex.exit 0) (mkS 27 [(3, goI v)] [Row.dead])) false 15 [AV.sl (List.map encL l)] [] fun q => q = r) = (LoopTo Try.prog H (H 15) 0 (loopOf Try.prog 15 3)
    (mkS 27 [(3, goI 0), (6, AV.sl (List.map encL l)), (7, goI (↑(List.length (List.map encL l)) : Int)), (8, goI 0)]
      [Row.dead])
    (Ex.exit 0, mkS 27 [(3, goI v)] [Row.dead]) ∧
  (goI v, [], []) = r) := by kernel_rfl
theorem t15_3 (l : List Loc) (n : Int) (i : Nat) (r : Ex × St) : (turnT Try.prog H (fun f args sto => CT.of (F0 f args sto)) L0 false (H 15) 0 (loopOf Try.prog 15 3)
  (mkS 27 [(3, goI n), (6, AV.sl (List.map encL l)), (7, goI (↑(List.length l) : Int)), (8, goI (↑i : Int))] [Row.dead])
  r) = (TB (decide ((↑i : Int) < (↑(List.length l) : Int)))
  ((0 ≤ (↑i : Int) ∧
      (List.map encL l)[i]? = some [goI (rdI (rowAt (List.map encL l) i) 0), goI (rdI (rowAt (List.map encL l) i) 1)]) ∧
    TB (rdI (rowAt (List.map encL l) i) 0 == 2)
      (TB (decide (rdI (rowAt (List.map encL l) i) 1 < 1099511627776))
        (LoopTo Try.prog H (H 15) 0 (loopOf Try.prog 15 3)
          (mkS 27
            [(3,
                goI
                  (if true = true then
                    if n < IntKind.wrap IntKind.i64 (rdI (rowAt (List.map encL l) i) 1 + 1) then
                      IntKind.wrap IntKind.i64 (rdI (rowAt (List.map encL l) i) 1 + 1)
                    else n
                  else
                    if IntKind.wrap IntKind.i64 (rdI (rowAt (List.map encL l) i) 1 + 1) < n then
                      IntKind.wrap IntKind.i64 (rdI (rowAt (List.map encL l) i) 1 + 1)
                    else n)),
              (6, AV.sl (List.map encL l)), (7, goI (↑(List.length l) : Int)),
              (8, goI (IntKind.wrap IntKind.i64 ((↑i : Int) + 1)))]
            [Row.dead])
          r)
        (LoopTo Try.prog H (H 15) 0 (loopOf Try.prog 15 3)
          (mkS 27
            [(3, goI n), (6, AV.sl (List.map encL l)), (7, goI (↑(List.length l) : Int)),
              (8, goI (IntKind.wrap IntKind.i64 ((↑i : Int) + 1)))]
            [Row.dead])
          r))
      (LoopTo Try.prog H (H 15) 0 (loopOf Try.prog 15 3)
        (mkS 27
          [(3, goI n), (6, AV.sl (List.map encL l)), (7, goI (↑(List.length l) : Int)),
            (8, goI (IntKind.wrap IntKind.i64 ((↑i : Int) + 1)))]
          [Row.dead])
        r))
  ((Ex.exit 0, mkS 27 [(3, goI n)] [Row.dead]) = r)) := by kernel_rfl
theorem t16 (l : List Loc) (v : Int) (r : AV × List Row × List Nat) : (runT Try.prog H (fun f args sto => CT.of (F0 f args sto)) (fun id st => LT.is (Ex.exit 0) (mkS 41 [(3, goI v)])) false
  16 [AV.sl (List.map encL l)] [] fun q => q = r) = (LoopTo Try.prog H (H 16) 0 (loopOf Try.prog 16 3) (mkS 41 [(0, AV.sl (List.map encL l)), (3, goI 0), (4, goI 0)])
    (Ex.exit 0, mkS 41 [(3, goI v)]) ∧
  (goI v, [], []) = r) := by kernel_rfl
theorem t16_3 (l : List Loc) (n : Int) (i : Nat) (r : Ex × St) : (turnT Try.prog H (fun f args sto => CT.of (F0 f args sto)) L0 false (H 16) 0 (loopOf Try.prog 16 3)
  (mkS 41 [(0, AV.sl (List.map encL l)), (3, goI n), (4, goI (↑i : Int))]) r) = (TB (decide ((↑i : Int) < (↑(List.length (List.map encL l)) : Int)))
  ((0 ≤ (↑i : Int) ∧
      (List.map encL l)[i]? = some [goI (rdI (rowAt (List.map encL l) i) 0), goI (rdI (rowAt (List.map encL l) i) 1)]) ∧
    TB (rdI (rowAt (List.map encL l) i) 0 == 2)
      ((0 ≤ (↑i : Int) ∧
          (List.map encL l)[i]? =
            some [goI (rdI (rowAt (List.map encL l) i) 0), goI (rdI (rowAt (List.map encL l) i) 1)]) ∧
        TB (decide (rdI (rowAt (List.map encL l) i) 1 ≥ n))
          ((0 ≤ (↑i : Int) ∧
              (List.map encL l)[i]? =
                some [goI (rdI (rowAt (List.map encL l) i) 0), goI (rdI (rowAt (List.map encL l) i) 1)]) ∧
            TB (decide (rdI (rowAt (List.map encL l) i) 1 < 1099511627776))
              ((0 ≤ (↑i : Int) ∧
                  (List.map encL l)[i]? =
                    some [goI (rdI (rowAt (List.map encL l) i) 0), goI (rdI (rowAt (List.map encL l) i) 1)]) ∧
                LoopTo Try.prog H (H 16) 0 (loopOf Try.prog 16 3)
                  (mkS 41
                    [(0, AV.sl (List.map encL l)),
                      (3, goI (IntKind.wrap IntKind.i64 (rdI (rowAt (List.map encL l) i) 1 + 1))),
                      (4, goI (IntKind.wrap IntKind.i64 ((↑i : Int) + 1)))])
                  r)
              (LoopTo Try.prog H (H 16) 0 (loopOf Try.prog 16 3)
                (mkS 41
                  [(0, AV.sl (List.map encL l)), (3, goI n), (4, goI (IntKind.wrap IntKind.i64 ((↑i : Int) + 1)))])
                r))
          (LoopTo Try.prog H (H 16) 0 (loopOf Try.prog 16 3)
            (mkS 41 [(0, AV.sl (List.map encL l)), (3, goI n), (4, goI (IntKind.wrap IntKind.i64 ((↑i : Int) + 1)))])
            r))
      (LoopTo Try.prog H (H 16) 0 (loopOf Try.prog 16 3)
        (mkS 41 [(0, AV.sl (List.map encL l)), (3, goI n), (4, goI (IntKind.wrap IntKind.i64 ((↑i : Int) + 1)))]) r))
  ((Ex.exit 0, mkS 41 [(3, goI n)]) = r)) := by kernel_rfl
theorem t17 (s : List Span) (l : List Loc) (b : Bool) (r : AV × List Row × List Nat) : (runT Try.prog H (fun f args sto => CT.of (F0 f args sto)) (L17 b) false 17
  [AV.sl (List.map encS s), AV.sl (List.map encL l)] [] fun q => q = r) = (rowsOk 2 (List.map encL l) = true ∧
  ((0 ≤
        if false = true then
          if (↑(List.length (List.map encS s)) : Int) < (↑(List.length (List.map encL l)) : Int) then
            (↑(List.length (List.map encL l)) : Int)
          else (↑(List.length (List.map encS s)) : Int)
        else
          if (↑(List.length (List.map encL l)) : Int) < (↑(List.length (List.map encS s)) : Int) then
            (↑(List.length (List.map encL l)) : Int)
          else (↑(List.length (List.map encS s)) : Int)) ∧
      (if false = true then
          if (↑(List.length (List.map encS s)) : Int) < (↑(List.length (List.map encL l)) : Int) then
            (↑(List.length (List.map encL l)) : Int)
          else (↑(List.length (List.map encS s)) : Int)
        else
          if (↑(List.length (List.map encL l)) : Int) < (↑(List.length (List.map encS s)) : Int) then
            (↑(List.length (List.map encL l)) : Int)
          else (↑(List.length (List.map encS s)) : Int)) ≤
        (↑(List.length (List.map encL l)) : Int)) ∧
    TB b
      (LoopTo Try.prog H (H 17) 0 (loopOf Try.prog 17 3)
          (mkS 54
            [(0, AV.sl (List.map encS s)), (1, AV.sl (List.map encL l)),
              (17,
                AV.sl
                  (List.drop 0
                    (List.take
                      (Int.toNat
                        (if false = true then
                          if (↑(List.length (List.map encS s)) : Int) < (↑(List.length (List.map encL l)) : Int) then
                            (↑(List.length (List.map encL l)) : Int)
                          else (↑(List.length (List.map encS s)) : Int)
                        else
                          if (↑(List.length (List.map encL l)) : Int) < (↑(List.length (List.map encS s)) : Int) then
                            (↑(List.length (List.map encL l)) : Int)
                          else (↑(List.length (List.map encS s)) : Int)))
                      (List.map encL l)))),
              (18,
                goI
                  (↑(List.length
                        (List.drop 0
                          (List.take
                            (Int.toNat
                              (if false = true then
                                if
                                    (↑(List.length (List.map encS s)) : Int) <
                                      (↑(List.length (List.map encL l)) : Int) then
                                  (↑(List.length (List.map encL l)) : Int)
                                else (↑(List.length (List.map encS s)) : Int)
                              else
                                if
                                    (↑(List.length (List.map encL l)) : Int) <
                                      (↑(List.length (List.map encS s)) : Int) then
                                  (↑(List.length (List.map encL l)) : Int)
                                else (↑(List.length (List.map encS s)) : Int)))
                            (List.map encL l)))) :
                    Int)),
              (19, goI 0)]
            [Row.dead, Row.dead])
          (Ex.ret, mkS 54 [(4, goB true)] [Row.dead, Row.dead]) ∧
        (goB true, [], []) = r)
      (LoopTo Try.prog H (H 17) 0 (loopOf Try.prog 17 3)
          (mkS 54
            [(0, AV.sl (List.map encS s)), (1, AV.sl (List.map encL l)),
              (17,
                AV.sl
                  (List.drop 0
                    (List.take
                      (Int.toNat
                        (if false = true then
                          if (↑(List.length (List.map encS s)) : Int) < (↑(List.length (List.map encL l)) : Int) then
                            (↑(List.length (List.map encL l)) : Int)
                          else (↑(List.length (List.map encS s)) : Int)
                        else
                          if (↑(List.length (List.map encL l)) : Int) < (↑(List.length (List.map encS s)) : Int) then
                            (↑(List.length (List.map encL l)) : Int)
                          else (↑(List.length (List.map encS s)) : Int)))
                      (List.map encL l)))),
              (18,
                goI
                  (↑(List.length
                        (List.drop 0
                          (List.take
                            (Int.toNat
                              (if false = true then
                                if
                                    (↑(List.length (List.map encS s)) : Int) <
                                      (↑(List.length (List.map encL l)) : Int) then
                                  (↑(List.length (List.map encL l)) : Int)
                                else (↑(List.length (List.map encS s)) : Int)
                              else
                                if
                                    (↑(List.length (List.map encL l)) : Int) <
                                      (↑(List.length (List.map encS s)) : Int) then
                                  (↑(List.length (List.map encL l)) : Int)
                                else (↑(List.length (List.map encS s)) : Int)))
                            (List.map encL l)))) :
                    Int)),
              (19, goI 0)]
            [Row.dead, Row.dead])
          (Ex.exit 0, mkS 54 [] [Row.dead, Row.dead]) ∧
        (goB false, [], []) = r)) := by kernel_rfl
theorem t17_3 (s : List Span) (l : List Loc) (m : List Loc) (x : Loc) (n : Nat) (i : Nat) (b : Bool) (r : Ex × St) : (turnT Try.prog H (fun f args sto => CT.of (F0 f args sto)) (L173 s l (List.map encL m) x n i b) false (H 17) 0
  (loopOf Try.prog 17 3)
  (mkS 54
    [(0, AV.sl (List.map encS s)), (1, AV.sl (List.map encL l)), (17, AV.sl (List.map encL m)), (18, goI (↑n : Int)),
      (19, goI (↑i : Int))]
    [Row.dead, Row.dead])
  r) = (TB (decide ((↑i : Int) < (↑n : Int)))
  ((0 ≤ (↑i : Int) ∧
      (List.map encL m)[i]? = some [goI (rdI (rowAt (List.map encL m) i) 0), goI (rdI (rowAt (List.map encL m) i) 1)]) ∧
    rowsOk 2 (List.map encL l) = true ∧
      (0 ≤ (↑i : Int) ∧ (↑i : Int) ≤ (↑(List.length (List.map encL l)) : Int)) ∧
        TB b
          (LoopTo Try.prog H (H 17) 0 (loopOf Try.prog 17 6)
              (mkS 54
                [(0, AV.sl (List.map encS s)), (1, AV.sl (List.map encL l)), (6, goI (↑i : Int)), (7, AV.pt 0 0 0),
                  (17, AV.sl (List.map encL m)), (18, goI (↑n : Int)), (19, goI (↑i : Int)),
                  (26, AV.sl (List.drop 0 (List.take i (List.map encL l)))),
                  (27, goI (↑(List.length (List.drop 0 (List.take i (List.map encL l)))) : Int)), (28, goI 0)]
                [Row.box [goI (rdI (rowAt (List.map encL m) i) 0), goI (rdI (rowAt (List.map encL m) i) 1)], Row.dead])
              (Ex.ret, mkS 54 [(4, goB true)] [Row.dead, Row.dead]) ∧
            (Ex.ret, mkS 54 [(4, goB true)] [Row.dead, Row.dead]) = r)
          (LoopTo Try.prog H (H 17) 0 (loopOf Try.prog 17 6)
              (mkS 54
                [(0, AV.sl (List.map encS s)), (1, AV.sl (List.map encL l)), (6, goI (↑i : Int)), (7, AV.pt 0 0 0),
                  (17, AV.sl (List.map encL m)), (18, goI (↑n : Int)), (19, goI (↑i : Int)),
                  (26, AV.sl (List.drop 0 (List.take i (List.map encL l)))),
                  (27, goI (↑(List.length (List.drop 0 (List.take i (List.map encL l)))) : Int)), (28, goI 0)]
                [Row.box [goI (rdI (rowAt (List.map encL m) i) 0), goI (rdI (rowAt (List.map encL m) i) 1)], Row.dead])
              (Ex.exit 2,
                mkS 54
                  [(0, AV.sl (List.map encS s)), (1, AV.sl (List.map encL l)), (17, AV.sl (List.map encL m)),
                    (18, goI (↑n : Int)), (19, goI (↑i : Int))]
                  [Row.box [goI x.1, goI x.2], Row.dead]) ∧
            LoopTo Try.prog H (H 17) 0 (loopOf Try.prog 17 3)
              (mkS 54
                [(0, AV.sl (List.map encS s)), (1, AV.sl (List.map encL l)), (17, AV.sl (List.map encL m)),
                  (18, goI (↑n : Int)), (19, goI (IntKind.wrap IntKind.i64 ((↑i : Int) + 1)))]
                [Row.dead, Row.dead])
              r))
  ((Ex.exit 0, mkS 54 [] [Row.dead, Row.dead]) = r)) := by kernel_rfl
theorem t17_6 (s : List Span) (l : List Loc) (m : List Loc) (x : Loc) (m2 : List Loc) (n2 : Nat) (n : Nat) (i : Nat) (k : Nat) (r : Ex × St) : (turnT Try.prog H F23 L0 false (H 17) 0 (loopOf Try.prog 17 6)
  (mkS 54
    [(0, AV.sl (List.map encS s)), (1, AV.sl (List.map encL l)), (6, goI (↑i : Int)), (7, AV.pt 0 0 0),
      (17, AV.sl (List.map encL m)), (18, goI (↑n : Int)), (19, goI (↑i : Int)), (26, AV.sl (List.map encL m2)),
      (27, goI (↑n2 : Int)), (28, goI (↑k : Int))]
    [Row.box (encL x), Row.dead])
  r) = (TB (decide ((↑k : Int) < (↑n2 : Int)))
  ((0 ≤ (↑k : Int) ∧
      (List.map encL m2)[k]? =
        some [goI (rdI (rowAt (List.map encL m2) k) 0), goI (rdI (rowAt (List.map encL m2) k) 1)]) ∧
    TB (x.1 == rdI (rowAt (List.map encL m2) k) 0 && (x.2 == rdI (rowAt (List.map encL m2) k) 1 && true))
      (TB (!x.1 == 0)
        ((0 ≤ (↑i : Int) ∧
            (List.map encS s)[i]? =
              some
                [goI (rdI (rowAt (List.map encS s) i) 0), goI (rdI (rowAt (List.map encS s) i) 1),
                  goI (rdI (rowAt (List.map encS s) i) 2), goB (rdB (rowAt (List.map encS s) i) 3)]) ∧
          (0 ≤ (↑k : Int) ∧
              (List.map encS s)[k]? =
                some
                  [goI (rdI (rowAt (List.map encS s) k) 0), goI (rdI (rowAt (List.map encS s) k) 1),
                    goI (rdI (rowAt (List.map encS s) k) 2), goB (rdB (rowAt (List.map encS s) k) 3)]) ∧
            Wf Try.prog H 23
                  [AV.agg
                      [goI (rdI (rowAt (List.map encS s) i) 0), goI (rdI (rowAt (List.map encS s) i) 1),
                        goI (rdI (rowAt (List.map encS s) i) 2), goB (rdB (rowAt (List.map encS s) i) 3)],
                    AV.agg
                      [goI (rdI (rowAt (List.map encS s) k) 0), goI (rdI (rowAt (List.map encS s) k) 1),
                        goI (rdI (rowAt (List.map encS s) k) 2), goB (rdB (rowAt (List.map encS s) k) 3)]]
                  [] =
                some
                  (goB
                      (U.meetR (rdI (rowAt (List.map encS s) i) 0) (rdI (rowAt (List.map encS s) i) 1)
                        (rdI (rowAt (List.map encS s) i) 2) (rdB (rowAt (List.map encS s) i) 3)
                        (rdI (rowAt (List.map encS s) k) 0) (rdI (rowAt (List.map encS s) k) 1)
                        (rdI (rowAt (List.map encS s) k) 2) (rdB (rowAt (List.map encS s) k) 3)),
                    [], []) ∧
              TB
                (U.meetR (rdI (rowAt (List.map encS s) i) 0) (rdI (rowAt (List.map encS s) i) 1)
                  (rdI (rowAt (List.map encS s) i) 2) (rdB (rowAt (List.map encS s) i) 3)
                  (rdI (rowAt (List.map encS s) k) 0) (rdI (rowAt (List.map encS s) k) 1)
                  (rdI (rowAt (List.map encS s) k) 2) (rdB (rowAt (List.map encS s) k) 3))
                ((Ex.ret, mkS 54 [(4, goB true)] [Row.dead, Row.dead]) = r)
                (LoopTo Try.prog H (H 17) 0 (loopOf Try.prog 17 6)
                  (mkS 54
                    [(0, AV.sl (List.map encS s)), (1, AV.sl (List.map encL l)), (6, goI (↑i : Int)), (7, AV.pt 0 0 0),
                      (17, AV.sl (List.map encL m)), (18, goI (↑n : Int)), (19, goI (↑i : Int)),
                      (26, AV.sl (List.map encL m2)), (27, goI (↑n2 : Int)),
                      (28, goI (IntKind.wrap IntKind.i64 ((↑k : Int) + 1)))]
                    [Row.box [goI x.1, goI x.2], Row.dead])
                  r))
        (LoopTo Try.prog H (H 17) 0 (loopOf Try.prog 17 6)
          (mkS 54
            [(0, AV.sl (List.map encS s)), (1, AV.sl (List.map encL l)), (6, goI (↑i : Int)), (7, AV.pt 0 0 0),
              (17, AV.sl (List.map encL m)), (18, goI (↑n : Int)), (19, goI (↑i : Int)), (26, AV.sl (List.map encL m2)),
              (27, goI (↑n2 : Int)), (28, goI (IntKind.wrap IntKind.i64 ((↑k : Int) + 1)))]
            [Row.box [goI x.1, goI x.2], Row.dead])
          r))
      (LoopTo Try.prog H (H 17) 0 (loopOf Try.prog 17 6)
        (mkS 54
          [(0, AV.sl (List.map encS s)), (1, AV.sl (List.map encL l)), (6, goI (↑i : Int)), (7, AV.pt 0 0 0),
            (17, AV.sl (List.map encL m)), (18, goI (↑n : Int)), (19, goI (↑i : Int)), (26, AV.sl (List.map encL m2)),
            (27, goI (↑n2 : Int)), (28, goI (IntKind.wrap IntKind.i64 ((↑k : Int) + 1)))]
          [Row.box [goI x.1, goI x.2], Row.dead])
        r))
  ((Ex.exit 2,
      mkS 54
        [(0, AV.sl (List.map encS s)), (1, AV.sl (List.map encL l)), (17, AV.sl (List.map encL m)),
          (18, goI (↑n : Int)), (19, goI (↑i : Int))]
        [Row.box [goI x.1, goI x.2], Row.dead]) =
    r)) := by kernel_rfl
theorem t18 (s : List Span) (l : List Loc) (b : Bool) (r : AV × List Row × List Nat) : (runT Try.prog H (fun f args sto => CT.of (F0 f args sto)) (L18 b) false 18
  [AV.sl (List.map encS s), AV.sl (List.map encL l)] [] fun q => q = r) = (TB b
  (LoopTo Try.prog H (H 18) 0 (loopOf Try.prog 18 3)
      (mkS 51
        [(0, AV.sl (List.map encS s)), (1, AV.sl (List.map encL l)),
          (5,
            goI
              (if false = true then
                if (↑(List.length (List.map encS s)) : Int) < (↑(List.length (List.map encL l)) : Int) then
                  (↑(List.length (List.map encL l)) : Int)
                else (↑(List.length (List.map encS s)) : Int)
              else
                if (↑(List.length (List.map encL l)) : Int) < (↑(List.length (List.map encS s)) : Int) then
                  (↑(List.length (List.map encL l)) : Int)
                else (↑(List.length (List.map encS s)) : Int))),
          (6, goI 0)])
      (Ex.ret, mkS 51 [(4, goB true)]) ∧
    (goB true, [], []) = r)
  (LoopTo Try.prog H (H 18) 0 (loopOf Try.prog 18 3)
      (mkS 51
        [(0, AV.sl (List.map encS s)), (1, AV.sl (List.map encL l)),
          (5,
            goI
              (if false = true then
                if (↑(List.length (List.map encS s)) : Int) < (↑(List.length (List.map encL l)) : Int) then
                  (↑(List.length (List.map encL l)) : Int)
                else (↑(List.length (List.map encS s)) : Int)
              else
                if (↑(List.length (List.map encL l)) : Int) < (↑(List.length (List.map encS s)) : Int) then
                  (↑(List.length (List.map encL l)) : Int)
                else (↑(List.length (List.map encS s)) : Int))),
          (6, goI 0)])
      (Ex.exit 0, mkS 51 []) ∧
    (goB false, [], []) = r)) := by kernel_rfl
theorem t18_3 (s : List Span) (l : List Loc) (n : Nat) (i : Nat) (b : Bool) (r : Ex × St) : (turnT Try.prog H (fun f args sto => CT.of (F0 f args sto)) (L183 s l n i b) false (H 18) 0 (loopOf Try.prog 18 3)
  (mkS 51 [(0, AV.sl (List.map encS s)), (1, AV.sl (List.map encL l)), (5, goI (↑n : Int)), (6, goI (↑i : Int))]) r) = (TB (decide ((↑i : Int) < (↑n : Int)))
  (TB b
    (LoopTo Try.prog H (H 18) 0 (loopOf Try.prog 18 6)
        (mkS 51
          [(0, AV.sl (List.map encS s)), (1, AV.sl (List.map encL l)), (5, goI (↑n : Int)), (6, goI (↑i : Int)),
            (7, goI 0)])
        (Ex.ret, mkS 51 [(4, goB true)]) ∧
      (Ex.ret, mkS 51 [(4, goB true)]) = r)
    (LoopTo Try.prog H (H 18) 0 (loopOf Try.prog 18 6)
        (mkS 51
          [(0, AV.sl (List.map encS s)), (1, AV.sl (List.map encL l)), (5, goI (↑n : Int)), (6, goI (↑i : Int)),
            (7, goI 0)])
        (Ex.exit 2,
          mkS 51
            [(0, AV.sl (List.map encS s)), (1, AV.sl (List.map encL l)), (5, goI (↑n : Int)), (6, goI (↑i : Int))]) ∧
      LoopTo Try.prog H (H 18) 0 (loopOf Try.prog 18 3)
        (mkS 51
          [(0, AV.sl (List.map encS s)), (1, AV.sl (List.map encL l)), (5, goI (↑n : Int)),
            (6, goI (IntKind.wrap IntKind.i64 ((↑i : Int) + 1)))])
        r))
  ((Ex.exit 0, mkS 51 []) = r)) := by kernel_rfl
theorem t18_6 (s : List Span) (l : List Loc) (n : Nat) (i : Nat) (k : Nat) (r : Ex × St) : (turnT Try.prog H F23 L0 false (H 18) 0 (loopOf Try.prog 18 6)
  (mkS 51
    [(0, AV.sl (List.map encS s)), (1, AV.sl (List.map encL l)), (5, goI (↑n : Int)), (6, goI (↑i : Int)),
      (7, goI (↑k : Int))])
  r) = (TB (decide ((↑k : Int) < (↑i : Int)))
  ((0 ≤ (↑i : Int) ∧
      (List.map encL l)[i]? = some [goI (rdI (rowAt (List.map encL l) i) 0), goI (rdI (rowAt (List.map encL l) i) 1)]) ∧
    (0 ≤ (↑k : Int) ∧
        (List.map encL l)[k]? =
          some [goI (rdI (rowAt (List.map encL l) k) 0), goI (rdI (rowAt (List.map encL l) k) 1)]) ∧
      TB
        (rdI (rowAt (List.map encL l) i) 0 == rdI (rowAt (List.map encL l) k) 0 &&
          (rdI (rowAt (List.map encL l) i) 1 == rdI (rowAt (List.map encL l) k) 1 && true))
        ((0 ≤ (↑i : Int) ∧
            (List.map encL l)[i]? =
              some [goI (rdI (rowAt (List.map encL l) i) 0), goI (rdI (rowAt (List.map encL l) i) 1)]) ∧
          TB (!rdI (rowAt (List.map encL l) i) 0 == 0)
            ((0 ≤ (↑i : Int) ∧
                (List.map encS s)[i]? =
                  some
                    [goI (rdI (rowAt (List.map encS s) i) 0), goI (rdI (rowAt (List.map encS s) i) 1),
                      goI (rdI (rowAt (List.map encS s) i) 2), goB (rdB (rowAt (List.map encS s) i) 3)]) ∧
              (0 ≤ (↑k : Int) ∧
                  (List.map encS s)[k]? =
                    some
                      [goI (rdI (rowAt (List.map encS s) k) 0), goI (rdI (rowAt (List.map encS s) k) 1),
                        goI (rdI (rowAt (List.map encS s) k) 2), goB (rdB (rowAt (List.map encS s) k) 3)]) ∧
                Wf Try.prog H 24
                      [AV.agg
                          [goI (rdI (rowAt (List.map encS s) i) 0), goI (rdI (rowAt (List.map encS s) i) 1),
                            goI (rdI (rowAt (List.map encS s) i) 2), goB (rdB (rowAt (List.map encS s) i) 3)],
                        AV.agg
                          [goI (rdI (rowAt (List.map encS s) k) 0), goI (rdI (rowAt (List.map encS s) k) 1),
                            goI (rdI (rowAt (List.map encS s) k) 2), goB (rdB (rowAt (List.map encS s) k) 3)]]
                      [] =
                    some
                      (goB
                          (U.meetR (rdI (rowAt (List.map encS s) i) 0) (rdI (rowAt (List.map encS s) i) 1)
                            (rdI (rowAt (List.map encS s) i) 2) (rdB (rowAt (List.map encS s) i) 3)
                            (rdI (rowAt (List.map encS s) k) 0) (rdI (rowAt (List.map encS s) k) 1)
                            (rdI (rowAt (List.map encS s) k) 2) (rdB (rowAt (List.map encS s) k) 3)),
                        [], []) ∧
                  TB
                    (U.meetR (rdI (rowAt (List.map encS s) i) 0) (rdI (rowAt (List.map encS s) i) 1)
                      (rdI (rowAt (List.map encS s) i) 2) (rdB (rowAt (List.map encS s) i) 3)
                      (rdI (rowAt (List.map encS s) k) 0) (rdI (rowAt (List.map encS s) k) 1)
                      (rdI (rowAt (List.map encS s) k) 2) (rdB (rowAt (List.map encS s) k) 3))
                    ((Ex.ret, mkS 51 [(4, goB true)]) = r)
                    (LoopTo Try.prog H (H 18) 0 (loopOf Try.prog 18 6)
                      (mkS 51
                        [(0, AV.sl (List.map encS s)), (1, AV.sl (List.map encL l)), (5, goI (↑n : Int)),
                          (6, goI (↑i : Int)), (7, goI (IntKind.wrap IntKind.i64 ((↑k : Int) + 1)))])
                      r))
            (LoopTo Try.prog H (H 18) 0 (loopOf Try.prog 18 6)
              (mkS 51
                [(0, AV.sl (List.map encS s)), (1, AV.sl (List.map encL l)), (5, goI (↑n : Int)), (6, goI (↑i : Int)),
                  (7, goI (IntKind.wrap IntKind.i64 ((↑k : Int) + 1)))])
              r))
        (LoopTo Try.prog H (H 18) 0 (loopOf Try.prog 18 6)
          (mkS 51
            [(0, AV.sl (List.map encS s)), (1, AV.sl (List.map encL l)), (5, goI (↑n : Int)), (6, goI (↑i : Int)),
              (7, goI (IntKind.wrap IntKind.i64 ((↑k : Int) + 1)))])
          r))
  ((Ex.exit 2,
      mkS 51 [(0, AV.sl (List.map encS s)), (1, AV.sl (List.map encL l)), (5, goI (↑n : Int)), (6, goI (↑i : Int))]) =
    r)) := by kernel_rfl
theorem t6 (s : List Span) (l : List Loc) (r : AV × List Row × List Nat) : (runT Try.prog H F6 L0 false 6 [AV.sl (List.map encS s), AV.sl (List.map encL l)] [] fun q => q = r) = (Wf Try.prog H 8 [] [] = some (goB true, [], []) ∧
  TB (decide ((↑(List.length (List.map encS s)) : Int) > 60)) ((goB true, [], []) = r)
    (TB (decide ((↑(List.length (List.map encL l)) : Int) > 60)) ((goB true, [], []) = r)
      (Wf Try.prog H 15 [AV.sl (List.map encL l)] [] = some (goI (U.slotsR (List.map encL l)), [], []) ∧
        Wf Try.prog H 16 [AV.sl (List.map encL l)] [] = some (goI (U.slotsR (List.map encL l)), [], []) ∧
          TB (U.slotsR (List.map encL l) == U.slotsR (List.map encL l))
            (Wf Try.prog H 17 [AV.sl (List.map encS s), AV.sl (List.map encL l)] [] =
                some (goB (U.clashR (List.map encS s) (List.map encL l)), [], []) ∧
              Wf Try.prog H 18 [AV.sl (List.map encS s), AV.sl (List.map encL l)] [] =
                  some (goB (U.clashR (List.map encS s) (List.map encL l)), [], []) ∧
                (goB (U.clashR (List.map encS s) (List.map encL l) == U.clashR (List.map encS s) (List.map encL l)), [],
                    []) =
                  r)
            ((goB false, [], []) = r)))) := by kernel_rfl
theorem max_ite (a b : Int) : (if true = true then (if a < b then b else a) else (if b < a then b else a)) = if a < b then b else a := if_pos rfl
theorem loop15_3 (l : List Loc) (hw : ∀ x ∈ l, In64 x.n) (hl : l.length < 1000000) : ∀ (d i : Nat) (n : Int), i + d = l.length →
    LoopTo Try.prog H (H 15) 0 (loopOf Try.prog 15 3) (mkS 27 [(3, goI n), (6, .sl (l.map encL)), (7, goI l.length), (8, goI i)] [.dead])
      (.exit 0, mkS 27 [(3, goI ((l.drop i).foldl U.slots1 n))] [.dead])
  | 0, i, n, hd => by
    refine turnK (t15_3 l n i _) ?_
    rw [decide_eq_false (by omega), List.drop_eq_nil_of_le (by omega)]
    exact rfl
  | d + 1, i, n, hd => by
    have hi : i < l.length := by omega
    refine turnK (t15_3 l n i _) ?_
    have ih := fun n => loop15_3 l hw hl d (i + 1) n (by omega)
    have hx := hw _ (getD_mem hi)
    have ex : l.getD i default = U.lc l i := rfl
    rw [ex] at hx
    rw [decide_eq_true (by omega), wrapS hi hl, rowL hi, getL hi, drop_cons' l hi, List.foldl_cons, ex]
    simp only [rdI, List.getD_cons_zero, List.getD_cons_succ, int_goI, max_ite]
    refine ⟨⟨by omega, by trivial⟩, ?_⟩
    unfold In64 at hx
    by_cases h1 : (U.lc l i).k = 2
    · rw [beq_iff_eq.2 h1]
      by_cases h2 : (U.lc l i).n < 1099511627776
      · rw [decide_eq_true h2]
        have hwr : IntKind.i64.wrap ((U.lc l i).n + 1) = (U.lc l i).n + 1 := by rw [wrap64] <;> omega
        have e : U.slots1 n (U.lc l i) = if n < (U.lc l i).n + 1 then (U.lc l i).n + 1 else n := by unfold U.slots1; rw [if_pos ⟨h1, h2⟩]
        rw [hwr, e]
        exact ih _
      · have e : U.slots1 n (U.lc l i) = n := by unfold U.slots1; rw [if_neg (fun q => h2 q.2)]
        rw [decide_eq_false h2, e]
        exact ih _
    · have e : U.slots1 n (U.lc l i) = n := by unfold U.slots1; rw [if_neg (fun q => h1 q.1)]
      rw [beq_eq_false_iff_ne.2 h1, e]
      exact ih _
theorem wf15 (l : List Loc) (hw : ∀ x ∈ l, In64 x.n) (hl : l.length < 1000000) : Wf Try.prog H 15 [.sl (l.map encL)] [] = some (goI (U.slots l), [], []) := by
  refine runK (t15 l (U.slots l) _) ⟨?_, rfl⟩
  rw [List.length_map]
  have h := loop15_3 l hw hl l.length 0 0 (by omega)
  rw [List.drop_zero] at h
  exact h
theorem loop16_3 (l : List Loc) (hw : ∀ x ∈ l, In64 x.n) (hl : l.length < 1000000) : ∀ (d i : Nat) (n : Int), i + d = l.length →
    LoopTo Try.prog H (H 16) 0 (loopOf Try.prog 16 3) (mkS 41 [(0, .sl (l.map encL)), (3, goI n), (4, goI i)])
      (.exit 0, mkS 41 [(3, goI ((l.drop i).foldl U.slots1 n))])
  | 0, i, n, hd => by
    refine turnK (t16_3 l n i _) ?_
    rw [List.length_map, decide_eq_false (by omega), List.drop_eq_nil_of_le (by omega)]
    exact rfl
  | d + 1, i, n, hd => by
    have hi : i < l.length := by omega
    refine turnK (t16_3 l n i _) ?_
    have ih := fun n => loop16_3 l hw hl d (i + 1) n (by omega)
    have hx := hw _ (getD_mem hi)
    have ex : l.getD i default = U.lc l i := rfl
    rw [ex] at hx
    rw [List.length_map, decide_eq_true (by omega), wrapS hi hl, rowL hi, getL hi, drop_cons' l hi, List.foldl_cons, ex]
    simp only [rdI, List.getD_cons_zero, List.getD_cons_succ, int_goI]
    refine ⟨⟨by omega, by trivial⟩, ?_⟩
    unfold In64 at hx
    by_cases h1 : (U.lc l i).k = 2
    · rw [beq_iff_eq.2 h1]
      refine ⟨⟨by omega, by trivial⟩, ?_⟩
      by_cases h3 : (U.lc l i).n ≥ n
      · rw [decide_eq_true h3]
        refine ⟨⟨by omega, by trivial⟩, ?_⟩
        by_cases h2 : (U.lc l i).n < 1099511627776
        · rw [decide_eq_true h2]
          have hwr : IntKind.i64.wrap ((U.lc l i).n + 1) = (U.lc l i).n + 1 := by rw [wrap64] <;> omega
          have e : U.slots1 n (U.lc l i) = (U.lc l i).n + 1 := by unfold U.slots1; rw [if_pos ⟨h1, h2⟩, if_pos (by omega)]
          rw [hwr, e]
          exact ⟨⟨by omega, by trivial⟩, ih _⟩
        · have e : U.slots1 n (U.lc l i) = n := by unfold U.slots1; rw [if_neg (fun q => h2 q.2)]
          rw [decide_eq_false h2, e]
          exact ih _
      · have e : U.slots1 n (U.lc l i) = n := by unfold U.slots1; split <;> first | rfl | (rw [if_neg (by omega)])
        rw [decide_eq_false h3, e]
        exact ih _
    · have e : U.slots1 n (U.lc l i) = n := by unfold U.slots1; rw [if_neg (fun q => h1 q.1)]
      rw [beq_eq_false_iff_ne.2 h1, e]
      exact ih _
theorem wf16 (l : List Loc) (hw : ∀ x ∈ l, In64 x.n) (hl : l.length < 1000000) : Wf Try.prog H 16 [.sl (l.map encL)] [] = some (goI (U.slots l), [], []) := by
  refine runK (t16 l (U.slots l) _) ⟨?_, rfl⟩
  have h := loop16_3 l hw hl l.length 0 0 (by omega)
  rw [List.drop_zero] at h
  exact h
theorem clashIn_step (s : List Span) (l : List Loc) (i : Nat) {k : Nat} (hk : k < i) : U.clashIn s l i k = (U.clashAt s l i k || U.clashIn s l i (k + 1)) := by
  unfold U.clashIn; rw [allFrom_step _ hk]; simp [Bool.not_and]
theorem clashFrom_step (s : List Span) (l : List Loc) (n : Nat) {i : Nat} (hi : i < n) : U.clashFrom s l n i = (U.clashIn s l i 0 || U.clashFrom s l n (i + 1)) := by
  unfold U.clashFrom; rw [allFrom_step _ hi]; simp [Bool.not_and]
theorem lc_take (l : List Loc) (n k : Nat) (hk : k < n) : U.lc (l.take n) k = U.lc l k := by
  unfold U.lc; rw [List.getD_eq_getElem?_getD, List.getElem?_take, if_pos hk, List.getD_eq_getElem?_getD]
theorem k_ne (x : Loc) : (!x.k == 0) = !(decide (x.k = 0)) := by congr 1
theorem loop17_6 (s : List Span) (l : List Loc) (n i : Nat) (hi : i < n) (hn : n ≤ s.length) (hn2 : n ≤ l.length) (hl : n < 1000000) : ∀ (d k : Nat), k + d = i →
    LoopTo Try.prog H (H 17) 0 (loopOf Try.prog 17 6) (mkS 54 [(0, .sl (s.map encS)), (1, .sl (l.map encL)), (6, goI i), (7, .pt 0 0 0), (17, .sl ((l.take n).map encL)), (18, goI n), (19, goI i), (26, .sl ((l.take i).map encL)), (27, goI i), (28, goI k)] [.box (encL (U.lc l i)), .dead])
      (if U.clashIn s l i k then (.ret, mkS 54 [(4, goB true)] [.dead, .dead]) else (.exit 2, mkS 54 [(0, .sl (s.map encS)), (1, .sl (l.map encL)), (17, .sl ((l.take n).map encL)), (18, goI n), (19, goI i)] [.box (encL (U.lc l i)), .dead]))
  | 0, k, hd => by
    refine turnK (t17_6 s l (l.take n) (U.lc l i) (l.take i) i n i k _) ?_
    have hk : k = i := by omega
    subst hk
    rw [decide_eq_false (by omega), if_neg (by simp [U.clashIn, allFrom_end])]
    exact rfl
  | d + 1, k, hd => by
    have hk : k < i := by omega
    refine turnK (t17_6 s l (l.take n) (U.lc l i) (l.take i) i n i k _) ?_
    have ih := loop17_6 s l n i hi hn hn2 hl d (k + 1) (by omega)
    have hkt : k < (l.take i).length := by rw [List.length_take]; omega
    have h23 := wf23 (U.sp s i) (U.sp s k)
    rw [decide_eq_true (by omega), wrapS hk (by omega), rowL hkt, getL hkt, rowS (show i < s.length by omega), getS (show i < s.length by omega), rowS (show k < s.length by omega), getS (show k < s.length by omega), clashIn_step s l i hk, lc_take l i k hk]
    simp only [rdI, rdB, List.getD_cons_zero, List.getD_cons_succ, int_goI, bool_goB, Bool.and_true, Loc.beq, k_ne]
    have e2 : U.meetR (U.sp s i).v (U.sp s i).fr (U.sp s i).to (U.sp s i).call (U.sp s k).v (U.sp s k).fr (U.sp s k).to (U.sp s k).call = U.meet (U.sp s i) (U.sp s k) := rfl
    rw [e2]
    unfold U.clashAt
    refine ⟨⟨by omega, by trivial⟩, ?_⟩
    cases decide (U.lc l i = U.lc l k) with
    | false => exact ih
    | true =>
      cases decide ((U.lc l i).k = 0) with
      | true => exact ih
      | false =>
        refine ⟨⟨by omega, by trivial⟩, ⟨by omega, by trivial⟩, h23, ?_⟩
        cases U.meet (U.sp s i) (U.sp s k) with
        | true => exact rfl
        | false => exact ih
theorem loop17_3 (s : List Span) (l : List Loc) (n : Nat) (hn : n ≤ s.length) (hn2 : n ≤ l.length) (hl : n < 1000000) : ∀ (d i : Nat), i + d = n →
    LoopTo Try.prog H (H 17) 0 (loopOf Try.prog 17 3) (mkS 54 [(0, .sl (s.map encS)), (1, .sl (l.map encL)), (17, .sl ((l.take n).map encL)), (18, goI n), (19, goI i)] [.dead, .dead])
      (if U.clashFrom s l n i then (.ret, mkS 54 [(4, goB true)] [.dead, .dead]) else (.exit 0, mkS 54 [] [.dead, .dead]))
  | 0, i, hd => by
    refine turnK (t17_3 s l (l.take n) ⟨0, 0⟩ n i true _) ?_
    have hi : i = n := by omega
    subst hi
    rw [decide_eq_false (by omega), if_neg (by simp [U.clashFrom, allFrom_end])]
    exact rfl
  | d + 1, i, hd => by
    have hi : i < n := by omega
    refine turnK (t17_3 s l (l.take n) (U.lc l i) n i (U.clashIn s l i 0) _) ?_
    have ih := loop17_3 s l n hn hn2 hl d (i + 1) (by omega)
    have h6 := loop17_6 s l n i hi hn hn2 hl i 0 (by omega)
    have hit : i < (l.take n).length := by rw [List.length_take]; omega
    have el : ((List.drop 0 (List.take i (l.map encL))).length : Int) = i := by rw [List.drop_zero, List.length_take, List.length_map]; omega
    have em : List.drop 0 (List.take i (l.map encL)) = (l.take i).map encL := by rw [List.drop_zero, List.map_take]
    rw [decide_eq_true (by omega), wrapS hi (by omega), rowL hit, getL hit, clashFrom_step s l n hi, lc_take l n i hi, el, em]
    simp only [rdI, List.getD_cons_zero, List.getD_cons_succ, int_goI]
    refine ⟨⟨by omega, by trivial⟩, rowsOk_of (enc := encL) (s := 2) (fun _ => rfl) l, ⟨by omega, by rw [List.length_map]; omega⟩, ?_⟩
    cases h1 : U.clashIn s l i 0 with
    | true => rw [h1] at h6; exact ⟨h6, rfl⟩
    | false => rw [h1] at h6; exact ⟨h6, ih⟩
theorem min_ite (a b : Nat) : (if false = true then (if (a : Int) < b then (b : Int) else a) else (if (b : Int) < a then (b : Int) else a)) = ((min a b : Nat) : Int) := by
  rw [if_neg (by simp)]
  split <;> omega
theorem wf17 (s : List Span) (l : List Loc) (hl : l.length < 1000000) : Wf Try.prog H 17 [.sl (s.map encS), .sl (l.map encL)] [] = some (goB (U.clashFrom s l (min s.length l.length) 0), [], []) := by
  refine runK (t17 s l (U.clashFrom s l (min s.length l.length) 0) _) ?_
  have h := loop17_3 s l (min s.length l.length) (by omega) (by omega) (by omega) (min s.length l.length) 0 (by omega)
  rw [List.length_map, List.length_map]
  simp only [min_ite, Int.toNat_natCast]
  have em : List.drop 0 (List.take (min s.length l.length) (l.map encL)) = (l.take (min s.length l.length)).map encL := by rw [List.drop_zero, List.map_take]
  have el : (((l.take (min s.length l.length)).map encL).length : Int) = ((min s.length l.length : Nat) : Int) := by rw [List.length_map, List.length_take]; omega
  rw [em, el]
  refine ⟨rowsOk_of (enc := encL) (s := 2) (fun _ => rfl) l, ⟨by omega, by omega⟩, ?_⟩
  cases h1 : U.clashFrom s l (min s.length l.length) 0 with
  | true => rw [h1] at h; exact ⟨h, rfl⟩
  | false => rw [h1] at h; exact ⟨h, rfl⟩
theorem loop18_6 (s : List Span) (l : List Loc) (n i : Nat) (hi : i < n) (hn : n ≤ s.length) (hn2 : n ≤ l.length) (hl : n < 1000000) : ∀ (d k : Nat), k + d = i →
    LoopTo Try.prog H (H 18) 0 (loopOf Try.prog 18 6) (mkS 51 [(0, .sl (s.map encS)), (1, .sl (l.map encL)), (5, goI n), (6, goI i), (7, goI k)])
      (if U.clashIn s l i k then (.ret, mkS 51 [(4, goB true)]) else (.exit 2, mkS 51 [(0, .sl (s.map encS)), (1, .sl (l.map encL)), (5, goI n), (6, goI i)]))
  | 0, k, hd => by
    refine turnK (t18_6 s l n i k _) ?_
    have hk : k = i := by omega
    subst hk
    rw [decide_eq_false (by omega), if_neg (by simp [U.clashIn, allFrom_end])]
    exact rfl
  | d + 1, k, hd => by
    have hk : k < i := by omega
    refine turnK (t18_6 s l n i k _) ?_
    have ih := loop18_6 s l n i hi hn hn2 hl d (k + 1) (by omega)
    have hil : i < l.length := by omega
    have hkl : k < l.length := by omega
    have h24 := wf24 (U.sp s i) (U.sp s k)
    rw [decide_eq_true (by omega), wrapS hk (by omega), rowL hil, getL hil, rowL hkl, getL hkl, rowS (show i < s.length by omega), getS (show i < s.length by omega), rowS (show k < s.length by omega), getS (show k < s.length by omega), clashIn_step s l i hk]
    simp only [rdI, rdB, List.getD_cons_zero, List.getD_cons_succ, int_goI, bool_goB, Bool.and_true, Loc.beq, k_ne]
    have e2 : U.meetR (U.sp s i).v (U.sp s i).fr (U.sp s i).to (U.sp s i).call (U.sp s k).v (U.sp s k).fr (U.sp s k).to (U.sp s k).call = U.meet (U.sp s i) (U.sp s k) := rfl
    rw [e2]
    unfold U.clashAt
    refine ⟨⟨by omega, by trivial⟩, ⟨by omega, by trivial⟩, ?_⟩
    cases decide (U.lc l i = U.lc l k) with
    | false => exact ih
    | true =>
      refine ⟨⟨by omega, by trivial⟩, ?_⟩
      cases decide ((U.lc l i).k = 0) with
      | true => exact ih
      | false =>
        refine ⟨⟨by omega, by trivial⟩, ⟨by omega, by trivial⟩, h24, ?_⟩
        cases U.meet (U.sp s i) (U.sp s k) with
        | true => exact rfl
        | false => exact ih
theorem loop18_3 (s : List Span) (l : List Loc) (n : Nat) (hn : n ≤ s.length) (hn2 : n ≤ l.length) (hl : n < 1000000) : ∀ (d i : Nat), i + d = n →
    LoopTo Try.prog H (H 18) 0 (loopOf Try.prog 18 3) (mkS 51 [(0, .sl (s.map encS)), (1, .sl (l.map encL)), (5, goI n), (6, goI i)])
      (if U.clashFrom s l n i then (.ret, mkS 51 [(4, goB true)]) else (.exit 0, mkS 51 []))
  | 0, i, hd => by
    refine turnK (t18_3 s l n i true _) ?_
    have hi : i = n := by omega
    subst hi
    rw [decide_eq_false (by omega), if_neg (by simp [U.clashFrom, allFrom_end])]
    exact rfl
  | d + 1, i, hd => by
    have hi : i < n := by omega
    refine turnK (t18_3 s l n i (U.clashIn s l i 0) _) ?_
    have ih := loop18_3 s l n hn hn2 hl d (i + 1) (by omega)
    have h6 := loop18_6 s l n i hi hn hn2 hl i 0 (by omega)
    rw [decide_eq_true (by omega), wrapS hi (by omega), clashFrom_step s l n hi]
    cases h1 : U.clashIn s l i 0 with
    | true => rw [h1] at h6; exact ⟨h6, rfl⟩
    | false => rw [h1] at h6; exact ⟨h6, ih⟩
theorem wf18 (s : List Span) (l : List Loc) (hl : l.length < 1000000) : Wf Try.prog H 18 [.sl (s.map encS), .sl (l.map encL)] [] = some (goB (U.clashFrom s l (min s.length l.length) 0), [], []) := by
  refine runK (t18 s l (U.clashFrom s l (min s.length l.length) 0) _) ?_
  have h := loop18_3 s l (min s.length l.length) (by omega) (by omega) (by omega) (min s.length l.length) 0 (by omega)
  rw [List.length_map, List.length_map]
  simp only [min_ite]
  cases h1 : U.clashFrom s l (min s.length l.length) 0 with
  | true => rw [h1] at h; exact ⟨h, rfl⟩
  | false => rw [h1] at h; exact ⟨h, rfl⟩
theorem wf8 : Wf Try.prog H 8 [] [] = some (goB true, [], []) := Wf_at 60 (by kernel_rfl)
theorem wf6 (s : List Span) (l : List Loc) (hw : ∀ x ∈ l, In64 x.n) : Wf Try.prog H 6 [.sl (s.map encS), .sl (l.map encL)] [] = some (goB true, [], []) := by
  refine runK (t6 s l _) ⟨wf8, ?_⟩
  rw [List.length_map, List.length_map]
  by_cases h1 : 60 < s.length
  · rw [decide_eq_true (by omega)]; exact rfl
  rw [decide_eq_false (by omega)]
  by_cases h2 : 60 < l.length
  · rw [decide_eq_true (by omega)]; exact rfl
  rw [decide_eq_false (by omega)]
  have e1 : U.slotsR (l.map encL) = U.slots l := by unfold U.slotsR; rw [decL_map]
  have e2 : U.clashR (s.map encS) (l.map encL) = U.clashFrom s l (min s.length l.length) 0 := by unfold U.clashR; rw [decL_map, decS_map]
  rw [e1, e2, beq_self_eq_true, beq_self_eq_true]
  exact ⟨wf15 l hw (by omega), wf16 l hw (by omega), wf17 s l (by omega), wf18 s l (by omega), rfl⟩
end Go.Proofs.Ythbkemkjkpaoaac.E
