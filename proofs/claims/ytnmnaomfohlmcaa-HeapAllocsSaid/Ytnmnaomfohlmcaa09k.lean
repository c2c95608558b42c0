/- Functions, by what the evaluator asks; the theorems t.. were printed by show.txt, a program of this session. -/
import Derived.Test.Ytnmnaomfohlmcaa09j
set_option linter.unusedVariables false
set_option linter.unusedSimpArgs false
set_option maxRecDepth 100000
namespace Go.Proofs.Ytnmnaomfohlmcaa.E
open Go
namespace U
def cnt (n : Int) : Bool := decide (n ≥ 0) && decide (n ≤ 8)
def zeros (n : Int) : List Int := List.replicate n.toNat 0
def made (a : List Obj) (x y : Int) : List Obj := a ++ [⟨zeros x, zeros y⟩]
def refsFrom (n : Nat) (l : List Int) (k : Nat) : Bool := allFrom (fun j => !bad n (nt l j)) k l.length
def rightFrom (hs : List Obj) (i : Nat) : Bool := allFrom (fun j => !badOb hs.length (ob hs j)) i hs.length
end U
def F11 : CallT := fun f args sto => match f, args, sto with
 | 14, [.agg [.sl l]], _ => .is (goB (U.rightR l), [], [])
 | 27, [.v (.int _ n)], _ => .is (goB (U.cnt n), [], [])
 | 28, [.sl l], _ => .is (.cl l, [], [])
 | _, _, _ => .no
def L15a (b : Bool) : Nat → St → LT := fun id st => .by b (.is (.exit 0) (mkS 52 [] [.dead, .dead])) (.is .ret (mkS 52 [(2, goB false)] [.dead, .dead]))
def L15 (a : List Obj) (i : Nat) (x : Row) (b : Bool) : Nat → St → LT := fun id st => .by b (.is (.exit 2) (mkS 52 [(1, .pt 0 0 0), (3, goI i)] [.box [.sl (a.map encO)], x])) (.is .ret (mkS 52 [(2, goB false)] [.dead, .dead]))
namespace U
noncomputable def reach (hs : List Obj) (l : List Int) : List Int := isort (Classical.epsilon (BfsTo hs [] l))
noncomputable def reachR (l q : List (List AV)) : List (List AV) := (reach (decO l) (q.map fun r => rdI r 0)).map encI
def madeR (l : List (List AV)) (x y : Int) : List (List AV) := l ++ [[.sl ((zeros x).map encI), .sl ((zeros y).map encI)]]
end U
noncomputable def F4 : CallT := fun f args sto => match f, args, sto with
 | 8, _, _ => .is (goB true, [], [])
 | 9, [.agg [.sl l]], _ => .is (goB (U.greatR l), [], [])
 | 11, [.agg [.sl l], .v (.int _ x), .v (.int _ y)], _ => .is (.tup [.agg [.os 0 0 (U.madeR l x y).length], goI (l.length + 1), goI 0], [.arr 2 (U.madeR l x y)], [])
 | 15, [.agg [.sl l]], _ => .is (goB (U.rightR l), [], [])
 | 16, [.sl a, .sl b], _ => .is (goB (U.intsR a b), [], [])
 | 17, [.agg [.sl l], .sl q], _ => .is (.os 0 0 (U.reachR l q).length, [.arr 1 (U.reachR l q)], [])
 | _, _, _ => .no
def L4 (h x : List Obj) (l : List Int) (id : Int) (b : Bool) : Nat → St → LT := fun _ st => .by b (.is .ret (mkS 78 [(6, goB true)] [.dead, .dead, .dead])) (.is (.exit 0) (mkS 78 [(2, .sl (l.map encI)), (3, .pt 0 0 0), (7, .pt 2 0 0)] [.box [.sl (h.map encO)], .dead, .box [.sl (x.map encO)]]))
set_option maxHeartbeats 4000000

theorem t28 (a : List Obj) (r : AV × List Row × List Nat) : (runT Try.prog H (fun f args sto => CT.of (F0 f args sto)) L0 false 28 [AV.sl (List.map encO a)] [] fun q => q = r) = ((0 ≤ (↑(List.length (List.map encO a)) : Int) ∧
    (↑(List.length (List.map encO a)) : Int) ≤ (↑(List.length (List.map encO a)) : Int)) ∧
  (0 ≤ (↑(List.length (List.map encO a)) : Int) ∧
      (↑(List.length (List.map encO a)) : Int) ≤ (↑(List.length (List.map encO a)) : Int)) ∧
    (List.length (List.map encO a) = List.length (List.map encO a) ∧
        List.length (List.map encO a) = List.length (List.map encO a)) ∧
      (AV.cl (List.map encO a), [], []) = r) := by kernel_rfl
theorem t27 (n : Int) (r : AV × List Row × List Nat) : (runT Try.prog H (fun f args sto => CT.of (F0 f args sto)) L0 false 27 [goI n] [] fun q => q = r) = (TB (decide (n ≥ 0)) ((goB (decide (n ≤ 8)), [], []) = r) ((goB false, [], []) = r)) := by kernel_rfl
theorem t11 (a : List Obj) (x : Int) (y : Int) (r : AV × List Row × List Nat) : (runT Try.prog H F11 L0 false 11 [hp a, goI x, goI y] [] fun q => q = r) = (Wf Try.prog H 27 [goI x] [] = some (goB (U.cnt x), [], []) ∧
  TB (!U.cnt x) ((AV.tup [AV.agg [AV.sl (List.map encO a)], goI 0, goI 1], [], []) = r)
    (Wf Try.prog H 27 [goI y] [] = some (goB (U.cnt y), [], []) ∧
      TB (!U.cnt y) ((AV.tup [AV.agg [AV.sl (List.map encO a)], goI 0, goI 1], [], []) = r)
        (Wf Try.prog H 14 [AV.agg [AV.sl (List.map encO a)]] [] = some (goB (U.rightR (List.map encO a)), [], []) ∧
          TB (!U.rightR (List.map encO a)) ((AV.tup [AV.agg [AV.sl (List.map encO a)], goI 0, goI 1], [], []) = r)
            (Wf Try.prog H 28 [AV.sl (List.map encO a)] [] = some (AV.cl (List.map encO a), [], []) ∧
              (0 ≤ x ∧ x ≤ x ∧ x ≤ (↑1000000 : Int)) ∧
                (0 ≤ y ∧ y ≤ y ∧ y ≤ (↑1000000 : Int)) ∧
                  true = true ∧
                    (rowsOk 2 (List.map encO a) = true ∧
                        (0 < 1 ∨ List.length (List.map encO a) = 0) ∧ List.length (List.map encO a) + 1 ≤ 1000000) ∧
                      (AV.tup
                            [AV.agg
                                [AV.os 0 0
                                    (List.length
                                      (List.map encO a ++
                                        [[AV.sl (List.replicate (Int.toNat x) [goI 0]),
                                            AV.sl (List.replicate (Int.toNat y) [goI 0])]]))],
                              goI
                                (↑(List.length
                                      (List.map encO a ++
                                        [[AV.sl (List.replicate (Int.toNat x) [goI 0]),
                                            AV.sl (List.replicate (Int.toNat y) [goI 0])]])) :
                                  Int),
                              goI 0],
                          [Row.arr 2
                              (List.map encO a ++
                                [[AV.sl (List.replicate (Int.toNat x) [goI 0]),
                                    AV.sl (List.replicate (Int.toNat y) [goI 0])]])],
                          []) =
                        r)))) := by kernel_rfl
theorem t15 (a : List Obj) (b : Bool) (r : AV × List Row × List Nat) : (runT Try.prog H (fun f args sto => CT.of (F0 f args sto)) (L15a b) false 15 [hp a] [] fun q => q = r) = (TB b
  (LoopTo Try.prog H (H 15) 0 (loopOf Try.prog 15 2)
      (mkS 52 [(1, AV.pt 0 0 0), (3, goI 0)] [Row.box [AV.sl (List.map encO a)], Row.dead])
      (Ex.exit 0, mkS 52 [] [Row.dead, Row.dead]) ∧
    (goB true, [], []) = r)
  (LoopTo Try.prog H (H 15) 0 (loopOf Try.prog 15 2)
      (mkS 52 [(1, AV.pt 0 0 0), (3, goI 0)] [Row.box [AV.sl (List.map encO a)], Row.dead])
      (Ex.ret, mkS 52 [(2, goB false)] [Row.dead, Row.dead]) ∧
    (goB false, [], []) = r)) := by kernel_rfl
theorem t15_2 (a : List Obj) (i : Nat) (b : Bool) (x : Row) (r : Ex × St) : (turnT Try.prog H (fun f args sto => CT.of (F0 f args sto)) (L15 a i x b) false (H 15) 0 (loopOf Try.prog 15 2)
  (mkS 52 [(1, AV.pt 0 0 0), (3, goI (↑i : Int))] [Row.box [AV.sl (List.map encO a)], Row.dead]) r) = (TB (decide ((↑i : Int) < (↑(List.length (List.map encO a)) : Int)))
  ((0 ≤ (↑i : Int) ∧
      (List.map encO a)[i]? =
        some [AV.sl (rdL (rowAt (List.map encO a) i) 0), AV.sl (rdL (rowAt (List.map encO a) i) 1)]) ∧
    TB (decide ((↑(List.length (rdL (rowAt (List.map encO a) i) 0)) : Int) > 8))
      ((Ex.ret, mkS 52 [(2, goB false)] [Row.dead, Row.dead]) = r)
      (TB (decide ((↑(List.length (rdL (rowAt (List.map encO a) i) 1)) : Int) > 8))
        ((Ex.ret, mkS 52 [(2, goB false)] [Row.dead, Row.dead]) = r)
        (TB b
          (LoopTo Try.prog H (H 15) 0 (loopOf Try.prog 15 8)
              (mkS 52 [(1, AV.pt 0 0 0), (3, goI (↑i : Int)), (4, AV.pt 1 0 0), (5, goI 0)]
                [Row.box [AV.sl (List.map encO a)],
                  Row.box [AV.sl (rdL (rowAt (List.map encO a) i) 0), AV.sl (rdL (rowAt (List.map encO a) i) 1)]])
              (Ex.exit 2, mkS 52 [(1, AV.pt 0 0 0), (3, goI (↑i : Int))] [Row.box [AV.sl (List.map encO a)], x]) ∧
            LoopTo Try.prog H (H 15) 0 (loopOf Try.prog 15 2)
              (mkS 52 [(1, AV.pt 0 0 0), (3, goI (IntKind.wrap IntKind.i64 ((↑i : Int) + 1)))]
                [Row.box [AV.sl (List.map encO a)], Row.dead])
              r)
          (LoopTo Try.prog H (H 15) 0 (loopOf Try.prog 15 8)
              (mkS 52 [(1, AV.pt 0 0 0), (3, goI (↑i : Int)), (4, AV.pt 1 0 0), (5, goI 0)]
                [Row.box [AV.sl (List.map encO a)],
                  Row.box [AV.sl (rdL (rowAt (List.map encO a) i) 0), AV.sl (rdL (rowAt (List.map encO a) i) 1)]])
              (Ex.ret, mkS 52 [(2, goB false)] [Row.dead, Row.dead]) ∧
            (Ex.ret, mkS 52 [(2, goB false)] [Row.dead, Row.dead]) = r))))
  ((Ex.exit 0, mkS 52 [] [Row.dead, Row.dead]) = r)) := by kernel_rfl
theorem t15_8 (a : List Obj) (o : Obj) (i : Nat) (k : Nat) (r : Ex × St) : (turnT Try.prog H (fun f args sto => CT.of (F0 f args sto)) L0 false (H 15) 0 (loopOf Try.prog 15 8)
  (mkS 52 [(1, AV.pt 0 0 0), (3, goI (↑i : Int)), (4, AV.pt 1 0 0), (5, goI (↑k : Int))]
    [Row.box [AV.sl (List.map encO a)], Row.box (encO o)])
  r) = (TB (decide ((↑k : Int) < (↑(List.length (List.map encI o.1)) : Int)))
  ((0 ≤ (↑k : Int) ∧ (List.map encI o.1)[k]? = some [goI (rdI (rowAt (List.map encI o.1) k) 0)]) ∧
    TB (decide (rdI (rowAt (List.map encI o.1) k) 0 < 0)) ((Ex.ret, mkS 52 [(2, goB false)] [Row.dead, Row.dead]) = r)
      ((0 ≤ (↑k : Int) ∧ (List.map encI o.1)[k]? = some [goI (rdI (rowAt (List.map encI o.1) k) 0)]) ∧
        TB (decide (rdI (rowAt (List.map encI o.1) k) 0 > (↑(List.length (List.map encO a)) : Int)))
          ((Ex.ret, mkS 52 [(2, goB false)] [Row.dead, Row.dead]) = r)
          (LoopTo Try.prog H (H 15) 0 (loopOf Try.prog 15 8)
            (mkS 52
              [(1, AV.pt 0 0 0), (3, goI (↑i : Int)), (4, AV.pt 1 0 0),
                (5, goI (IntKind.wrap IntKind.i64 ((↑k : Int) + 1)))]
              [Row.box [AV.sl (List.map encO a)], Row.box [AV.sl (List.map encI o.1), AV.sl (List.map encI o.2)]])
            r)))
  ((Ex.exit 2,
      mkS 52 [(1, AV.pt 0 0 0), (3, goI (↑i : Int))]
        [Row.box [AV.sl (List.map encO a)], Row.box [AV.sl (List.map encI o.1), AV.sl (List.map encI o.2)]]) =
    r)) := by kernel_rfl
theorem t4_9 (h : List Obj) (x : List Obj) (l : List Int) (id : Int) (i : Nat) (r : Ex × St) : (turnT Try.prog H (fun f args sto => CT.of (F0 f args sto)) L0 false (H 4) 0 (loopOf Try.prog 4 9)
  (mkS 78 [(2, AV.sl (List.map encI l)), (3, AV.pt 0 0 0), (7, AV.pt 2 0 0), (8, goI id), (10, goI (↑i : Int))]
    [Row.box [AV.sl (List.map encO h)], Row.dead, Row.box [AV.sl (List.map encO x)]])
  r) = (TB (decide ((↑i : Int) < (↑(List.length (List.map encI l)) : Int)))
  ((0 ≤ (↑i : Int) ∧ (List.map encI l)[i]? = some [goI (rdI (rowAt (List.map encI l) i) 0)]) ∧
    TB (rdI (rowAt (List.map encI l) i) 0 == id) ((Ex.ret, mkS 78 [(6, goB true)] [Row.dead, Row.dead, Row.dead]) = r)
      (LoopTo Try.prog H (H 4) 0 (loopOf Try.prog 4 9)
        (mkS 78
          [(2, AV.sl (List.map encI l)), (3, AV.pt 0 0 0), (7, AV.pt 2 0 0), (8, goI id),
            (10, goI (IntKind.wrap IntKind.i64 ((↑i : Int) + 1)))]
          [Row.box [AV.sl (List.map encO h)], Row.dead, Row.box [AV.sl (List.map encO x)]])
        r))
  ((Ex.exit 0,
      mkS 78 [(2, AV.sl (List.map encI l)), (3, AV.pt 0 0 0), (7, AV.pt 2 0 0)]
        [Row.box [AV.sl (List.map encO h)], Row.dead, Row.box [AV.sl (List.map encO x)]]) =
    r)) := by kernel_rfl
theorem t4 (h : List Obj) (x : List Obj) (a : Int) (b : Int) (l : List Int) (id : Int) (s : Bool) (r : AV × List Row × List Nat) : (runT Try.prog H F4 (L4 h x l id s) false 4
  [hp h, AV.agg [AV.v (Value.int IntKind.u8 a), AV.v (Value.int IntKind.u8 b)], AV.sl (List.map encI l)] [] fun q =>
  q = r) = (Wf Try.prog H 8 [] [] = some (goB true, [], []) ∧
  Wf Try.prog H 9 [AV.agg [AV.sl (List.map encO h)]] [] = some (goB (U.greatR (List.map encO h)), [], []) ∧
    TB (U.greatR (List.map encO h)) ((goB true, [], []) = r)
      (TB (decide ((↑(List.length (List.map encI l)) : Int) > 50)) ((goB true, [], []) = r)
        (Wf Try.prog H 15 [AV.agg [AV.sl (List.map encO h)]] [] = some (goB (U.rightR (List.map encO h)), [], []) ∧
          TB (!U.rightR (List.map encO h)) ((goB true, [], []) = r)
            ((iz 0 ≤ 0 ∧ 0 < (↑2 : Int)) ∧
              iz 9 ≠ 0 ∧
                (iz 0 ≤ 1 ∧ 1 < (↑2 : Int)) ∧
                  iz 9 ≠ 0 ∧
                    Wf Try.prog H 11
                          [AV.agg [AV.sl (List.map encO h)], goI (Int.tmod (IntKind.wrap IntKind.i64 a) 9),
                            goI (Int.tmod (IntKind.wrap IntKind.i64 b) 9)]
                          [] =
                        some
                          (AV.tup
                              [AV.agg
                                  [AV.os 0 0
                                      (List.length
                                        (U.madeR (List.map encO h) (Int.tmod (IntKind.wrap IntKind.i64 a) 9)
                                          (Int.tmod (IntKind.wrap IntKind.i64 b) 9)))],
                                goI ((↑(List.length (List.map encO h)) : Int) + 1), goI 0],
                            [Row.arr 2
                                (U.madeR (List.map encO h) (Int.tmod (IntKind.wrap IntKind.i64 a) 9)
                                  (Int.tmod (IntKind.wrap IntKind.i64 b) 9))],
                            []) ∧
                      TB
                        (!(↑(List.length (List.map encO h)) : Int) + 1 ==
                            IntKind.wrap IntKind.i64 ((↑(List.length (List.map encO h)) : Int) + 1))
                        ((goB false, [], []) = r)
                        (Wf Try.prog H 17
                              [AV.agg
                                  [AV.sl
                                      (List.take
                                        (List.length
                                          (U.madeR (List.map encO h) (Int.tmod (IntKind.wrap IntKind.i64 a) 9)
                                            (Int.tmod (IntKind.wrap IntKind.i64 b) 9)))
                                        (List.drop 0
                                          (U.madeR (List.map encO h) (Int.tmod (IntKind.wrap IntKind.i64 a) 9)
                                            (Int.tmod (IntKind.wrap IntKind.i64 b) 9))))],
                                AV.sl [[goI ((↑(List.length (List.map encO h)) : Int) + 1)]]]
                              [] =
                            some
                              (AV.os 0 0
                                  (List.length
                                    (U.reachR
                                      (List.take
                                        (List.length
                                          (U.madeR (List.map encO h) (Int.tmod (IntKind.wrap IntKind.i64 a) 9)
                                            (Int.tmod (IntKind.wrap IntKind.i64 b) 9)))
                                        (List.drop 0
                                          (U.madeR (List.map encO h) (Int.tmod (IntKind.wrap IntKind.i64 a) 9)
                                            (Int.tmod (IntKind.wrap IntKind.i64 b) 9))))
                                      [[goI ((↑(List.length (List.map encO h)) : Int) + 1)]])),
                                [Row.arr 1
                                    (U.reachR
                                      (List.take
                                        (List.length
                                          (U.madeR (List.map encO h) (Int.tmod (IntKind.wrap IntKind.i64 a) 9)
                                            (Int.tmod (IntKind.wrap IntKind.i64 b) 9)))
                                        (List.drop 0
                                          (U.madeR (List.map encO h) (Int.tmod (IntKind.wrap IntKind.i64 a) 9)
                                            (Int.tmod (IntKind.wrap IntKind.i64 b) 9))))
                                      [[goI ((↑(List.length (List.map encO h)) : Int) + 1)]])],
                                []) ∧
                          Wf Try.prog H 16
                                [AV.sl
                                    (List.take
                                      (List.length
                                        (U.reachR
                                          (List.take
                                            (List.length
                                              (U.madeR (List.map encO h) (Int.tmod (IntKind.wrap IntKind.i64 a) 9)
                                                (Int.tmod (IntKind.wrap IntKind.i64 b) 9)))
                                            (List.drop 0
                                              (U.madeR (List.map encO h) (Int.tmod (IntKind.wrap IntKind.i64 a) 9)
                                                (Int.tmod (IntKind.wrap IntKind.i64 b) 9))))
                                          [[goI ((↑(List.length (List.map encO h)) : Int) + 1)]]))
                                      (List.drop 0
                                        (U.reachR
                                          (List.take
                                            (List.length
                                              (U.madeR (List.map encO h) (Int.tmod (IntKind.wrap IntKind.i64 a) 9)
                                                (Int.tmod (IntKind.wrap IntKind.i64 b) 9)))
                                            (List.drop 0
                                              (U.madeR (List.map encO h) (Int.tmod (IntKind.wrap IntKind.i64 a) 9)
                                                (Int.tmod (IntKind.wrap IntKind.i64 b) 9))))
                                          [[goI ((↑(List.length (List.map encO h)) : Int) + 1)]]))),
                                  AV.sl [[goI ((↑(List.length (List.map encO h)) : Int) + 1)]]]
                                [] =
                              some
                                (goB
                                    (U.intsR
                                      (List.take
                                        (List.length
                                          (U.reachR
                                            (List.take
                                              (List.length
                                                (U.madeR (List.map encO h) (Int.tmod (IntKind.wrap IntKind.i64 a) 9)
                                                  (Int.tmod (IntKind.wrap IntKind.i64 b) 9)))
                                              (List.drop 0
                                                (U.madeR (List.map encO h) (Int.tmod (IntKind.wrap IntKind.i64 a) 9)
                                                  (Int.tmod (IntKind.wrap IntKind.i64 b) 9))))
                                            [[goI ((↑(List.length (List.map encO h)) : Int) + 1)]]))
                                        (List.drop 0
                                          (U.reachR
                                            (List.take
                                              (List.length
                                                (U.madeR (List.map encO h) (Int.tmod (IntKind.wrap IntKind.i64 a) 9)
                                                  (Int.tmod (IntKind.wrap IntKind.i64 b) 9)))
                                              (List.drop 0
                                                (U.madeR (List.map encO h) (Int.tmod (IntKind.wrap IntKind.i64 a) 9)
                                                  (Int.tmod (IntKind.wrap IntKind.i64 b) 9))))
                                            [[goI ((↑(List.length (List.map encO h)) : Int) + 1)]])))
                                      [[goI ((↑(List.length (List.map encO h)) : Int) + 1)]]),
                                  [], []) ∧
                            TB
                              (!U.intsR
                                  (List.take
                                    (List.length
                                      (U.reachR
                                        (List.take
                                          (List.length
                                            (U.madeR (List.map encO h) (Int.tmod (IntKind.wrap IntKind.i64 a) 9)
                                              (Int.tmod (IntKind.wrap IntKind.i64 b) 9)))
                                          (List.drop 0
                                            (U.madeR (List.map encO h) (Int.tmod (IntKind.wrap IntKind.i64 a) 9)
                                              (Int.tmod (IntKind.wrap IntKind.i64 b) 9))))
                                        [[goI ((↑(List.length (List.map encO h)) : Int) + 1)]]))
                                    (List.drop 0
                                      (U.reachR
                                        (List.take
                                          (List.length
                                            (U.madeR (List.map encO h) (Int.tmod (IntKind.wrap IntKind.i64 a) 9)
                                              (Int.tmod (IntKind.wrap IntKind.i64 b) 9)))
                                          (List.drop 0
                                            (U.madeR (List.map encO h) (Int.tmod (IntKind.wrap IntKind.i64 a) 9)
                                              (Int.tmod (IntKind.wrap IntKind.i64 b) 9))))
                                        [[goI ((↑(List.length (List.map encO h)) : Int) + 1)]])))
                                  [[goI ((↑(List.length (List.map encO h)) : Int) + 1)]])
                              ((goB false, [], []) = r)
                              (TB s
                                (LoopTo Try.prog H (H 4) 0 (loopOf Try.prog 4 9)
                                    (mkS 78
                                      [(2, AV.sl (List.map encI l)), (3, AV.pt 0 0 0), (7, AV.pt 2 0 0),
                                        (8, goI ((↑(List.length (List.map encO h)) : Int) + 1)), (10, goI 0)]
                                      [Row.box [AV.sl (List.map encO h)], Row.dead,
                                        Row.box
                                          [AV.sl
                                              (List.take
                                                (List.length
                                                  (U.madeR (List.map encO h) (Int.tmod (IntKind.wrap IntKind.i64 a) 9)
                                                    (Int.tmod (IntKind.wrap IntKind.i64 b) 9)))
                                                (List.drop 0
                                                  (U.madeR (List.map encO h) (Int.tmod (IntKind.wrap IntKind.i64 a) 9)
                                                    (Int.tmod (IntKind.wrap IntKind.i64 b) 9))))]])
                                    (Ex.ret, mkS 78 [(6, goB true)] [Row.dead, Row.dead, Row.dead]) ∧
                                  (goB true, [], []) = r)
                                (LoopTo Try.prog H (H 4) 0 (loopOf Try.prog 4 9)
                                    (mkS 78
                                      [(2, AV.sl (List.map encI l)), (3, AV.pt 0 0 0), (7, AV.pt 2 0 0),
                                        (8, goI ((↑(List.length (List.map encO h)) : Int) + 1)), (10, goI 0)]
                                      [Row.box [AV.sl (List.map encO h)], Row.dead,
                                        Row.box
                                          [AV.sl
                                              (List.take
                                                (List.length
                                                  (U.madeR (List.map encO h) (Int.tmod (IntKind.wrap IntKind.i64 a) 9)
                                                    (Int.tmod (IntKind.wrap IntKind.i64 b) 9)))
                                                (List.drop 0
                                                  (U.madeR (List.map encO h) (Int.tmod (IntKind.wrap IntKind.i64 a) 9)
                                                    (Int.tmod (IntKind.wrap IntKind.i64 b) 9))))]])
                                    (Ex.exit 0,
                                      mkS 78 [(2, AV.sl (List.map encI l)), (3, AV.pt 0 0 0), (7, AV.pt 2 0 0)]
                                        [Row.box [AV.sl (List.map encO h)], Row.dead,
                                          Row.box [AV.sl (List.map encO x)]]) ∧
                                  Wf Try.prog H 17 [AV.agg [AV.sl (List.map encO x)], AV.sl (List.map encI l)] [] =
                                      some
                                        (AV.os 0 0 (List.length (U.reachR (List.map encO x) (List.map encI l))),
                                          [Row.arr 1 (U.reachR (List.map encO x) (List.map encI l))], []) ∧
                                    Wf Try.prog H 17 [AV.agg [AV.sl (List.map encO h)], AV.sl (List.map encI l)] [] =
                                        some
                                          (AV.os 0 0 (List.length (U.reachR (List.map encO h) (List.map encI l))),
                                            [Row.arr 1 (U.reachR (List.map encO h) (List.map encI l))], []) ∧
                                      Wf Try.prog H 16
                                            [AV.sl
                                                (List.take (List.length (U.reachR (List.map encO x) (List.map encI l)))
                                                  (List.drop 0 (U.reachR (List.map encO x) (List.map encI l)))),
                                              AV.sl
                                                (List.take (List.length (U.reachR (List.map encO h) (List.map encI l)))
                                                  (List.drop 0 (U.reachR (List.map encO h) (List.map encI l))))]
                                            [] =
                                          some
                                            (goB
                                                (U.intsR
                                                  (List.take
                                                    (List.length (U.reachR (List.map encO x) (List.map encI l)))
                                                    (List.drop 0 (U.reachR (List.map encO x) (List.map encI l))))
                                                  (List.take
                                                    (List.length (U.reachR (List.map encO h) (List.map encI l)))
                                                    (List.drop 0 (U.reachR (List.map encO h) (List.map encI l))))),
                                              [], []) ∧
                                        (goB
                                              (U.intsR
                                                (List.take (List.length (U.reachR (List.map encO x) (List.map encI l)))
                                                  (List.drop 0 (U.reachR (List.map encO x) (List.map encI l))))
                                                (List.take (List.length (U.reachR (List.map encO h) (List.map encI l)))
                                                  (List.drop 0 (U.reachR (List.map encO h) (List.map encI l))))),
                                            [], []) =
                                          r))))))) := by kernel_rfl
theorem wf28 (a : List Obj) : Wf Try.prog H 28 [.sl (a.map encO)] [] = some (.cl (a.map encO), [], []) := runK (t28 a _) ⟨⟨by omega, by omega⟩, ⟨by omega, by omega⟩, ⟨rfl, rfl⟩, rfl⟩
theorem wf27 (n : Int) : Wf Try.prog H 27 [goI n] [] = some (goB (U.cnt n), [], []) := by
  refine runK (t27 n _) ?_
  unfold U.cnt
  by_cases h : n ≥ 0
  · rw [decide_eq_true h, Bool.true_and]; exact rfl
  · rw [decide_eq_false h, Bool.false_and]; exact rfl
theorem cnt_iff (n : Int) : U.cnt n = true ↔ 0 ≤ n ∧ n ≤ 8 := by
  unfold U.cnt
  simp only [Bool.and_eq_true, decide_eq_true_eq, ge_iff_le]
theorem madeR_map (a : List Obj) (x y : Int) : U.madeR (a.map encO) x y = (U.made a x y).map encO := by
  unfold U.madeR U.made
  rw [List.map_append]; rfl
theorem zerosR (n : Int) : (U.zeros n).map encI = List.replicate n.toNat [goI 0] := by
  unfold U.zeros; rw [List.map_replicate]; rfl
theorem made_len (a : List Obj) (x y : Int) : (U.made a x y).length = a.length + 1 := by unfold U.made; rw [List.length_append]; rfl
theorem wf11 (a : List Obj) (x y : Int) (hl : a.length < 1000000) (hr : U.right a = true) (hx : U.cnt x = true) (hy : U.cnt y = true) :
    Wf Try.prog H 11 [hp a, goI x, goI y] [] = some (.tup [.agg [.os 0 0 (U.madeR (a.map encO) x y).length], goI ((a.map encO).length + 1), goI 0], [.arr 2 (U.madeR (a.map encO) x y)], []) := by
  refine runK (t11 a x y _) ?_
  have er : U.rightR (a.map encO) = U.right a := by unfold U.rightR; rw [decO_map]
  obtain ⟨x0, x1⟩ := (cnt_iff x).1 hx
  obtain ⟨y0, y1⟩ := (cnt_iff y).1 hy
  have h27x := wf27 x
  have h27y := wf27 y
  have h14 := wf14 a hl
  rw [er, hx, hy, hr]
  rw [hx] at h27x
  rw [hy] at h27y
  rw [hr] at h14
  refine ⟨h27x, h27y, h14, wf28 a, ⟨by omega, by omega, by omega⟩, ⟨by omega, by omega, by omega⟩, rfl, ⟨rowsOk_of (enc := encO) (s := 2) (fun _ => rfl) a, .inl (by omega), by rw [List.length_map]; omega⟩, ?_⟩
  unfold U.madeR
  rw [zerosR, zerosR, List.length_append, show (((a.map encO).length + [[AV.sl (List.replicate x.toNat [goI 0]), AV.sl (List.replicate y.toNat [goI 0])]].length : Nat) : Int) = (a.map encO).length + 1 from by rw [List.length_singleton]; omega]
theorem wf11_no (a : List Obj) (x y : Int) (hl : a.length < 1000000) (h : ¬ (U.cnt x = true ∧ U.cnt y = true ∧ U.right a = true)) :
    Wf Try.prog H 11 [hp a, goI x, goI y] [] = some (.tup [hp a, goI 0, goI 1], [], []) := by
  refine runK (t11 a x y _) ?_
  have er : U.rightR (a.map encO) = U.right a := by unfold U.rightR; rw [decO_map]
  have h27x := wf27 x
  have h27y := wf27 y
  have h14 := wf14 a hl
  rw [er]
  refine ⟨h27x, ?_⟩
  cases hx : U.cnt x with
  | false => exact rfl
  | true =>
    refine ⟨h27y, ?_⟩
    cases hy : U.cnt y with
    | false => exact rfl
    | true =>
      refine ⟨h14, ?_⟩
      cases hr : U.right a with
      | false => exact rfl
      | true => exact absurd ⟨hx, hy, hr⟩ h
theorem refs_step (n : Nat) (l : List Int) {k : Nat} (h : k < l.length) : U.refsFrom n l k = (!U.bad n (U.nt l k) && U.refsFrom n l (k + 1)) := allFrom_step _ h
theorem refs_end (n : Nat) {l : List Int} {k : Nat} (h : l.length ≤ k) : U.refsFrom n l k = true := allFrom_end _ h
theorem rightF_step (a : List Obj) {i : Nat} (h : i < a.length) : U.rightFrom a i = (!U.badOb a.length (U.ob a i) && U.rightFrom a (i + 1)) := allFrom_step _ h
theorem rightF_end {a : List Obj} {i : Nat} (h : a.length ≤ i) : U.rightFrom a i = true := allFrom_end _ h
theorem badOb_bool (n : Nat) (o : Obj) (h1 : o.refs.length ≤ 8) (h2 : o.ints.length ≤ 8) : (!U.badOb n o) = U.refsFrom n o.refs 0 := by
  rw [Bool.eq_iff_iff, Bool.not_eq_true', badOb_iff]
  unfold U.refsFrom
  rw [allFrom_iff]
  constructor
  · rintro ⟨_, _, h3⟩ j _ hj
    have := h3 (U.nt o.refs j) (getD_mem hj)
    unfold U.bad
    simp only [Bool.not_eq_true', Bool.or_eq_false_iff, decide_eq_false_iff_not]
    omega
  · intro h
    refine ⟨h1, h2, fun r hr => ?_⟩
    obtain ⟨j, hj, rfl⟩ := mem_getD hr
    have := h j (Nat.zero_le _) hj
    unfold U.bad at this
    simp only [Bool.not_eq_true', Bool.or_eq_false_iff, decide_eq_false_iff_not] at this
    show 0 ≤ U.nt o.refs j ∧ U.nt o.refs j ≤ n
    omega
theorem loop15_8 (a : List Obj) (o : Obj) (i : Nat) (ho : o.refs.length ≤ 8) : ∀ (d k : Nat), k + d = o.refs.length →
    LoopTo Try.prog H (H 15) 0 (loopOf Try.prog 15 8) (mkS 52 [(1, .pt 0 0 0), (3, goI i), (4, .pt 1 0 0), (5, goI k)] [.box [.sl (a.map encO)], .box (encO o)])
      (if U.refsFrom a.length o.refs k then (.exit 2, mkS 52 [(1, .pt 0 0 0), (3, goI i)] [.box [.sl (a.map encO)], .box (encO o)]) else (.ret, mkS 52 [(2, goB false)] [.dead, .dead]))
  | 0, k, hd => by
    refine turnK (t15_8 a o i k _) ?_
    rw [List.length_map, decide_eq_false (by omega), refs_end _ (by omega)]
    exact rfl
  | d + 1, k, hd => by
    have hk : k < o.refs.length := by omega
    refine turnK (t15_8 a o i k _) ?_
    have e1 : rdI (rowAt (o.refs.map encI) k) 0 = U.nt o.refs k := by rw [rowI hk]; rfl
    rw [List.length_map, decide_eq_true (by omega), e1, getI hk, List.length_map, wrapS hk (by omega), refs_step _ _ hk]
    refine ⟨⟨by omega, rfl⟩, ?_⟩
    have ih := loop15_8 a o i ho d (k + 1) (by omega)
    unfold U.bad
    by_cases h1 : U.nt o.refs k < 0
    · rw [decide_eq_true h1]; exact rfl
    rw [decide_eq_false h1]
    refine ⟨⟨by omega, rfl⟩, ?_⟩
    by_cases h2 : U.nt o.refs k > (a.length : Int)
    · rw [decide_eq_true h2]; exact rfl
    rw [decide_eq_false h2]
    exact ih
theorem loop15_2 (a : List Obj) (hl : a.length < 1000000) : ∀ (d i : Nat), i + d = a.length →
    LoopTo Try.prog H (H 15) 0 (loopOf Try.prog 15 2) (mkS 52 [(1, .pt 0 0 0), (3, goI i)] [.box [.sl (a.map encO)], .dead])
      (if U.rightFrom a i then (.exit 0, mkS 52 [] [.dead, .dead]) else (.ret, mkS 52 [(2, goB false)] [.dead, .dead]))
  | 0, i, hd => by
    refine turnK (t15_2 a i true .dead _) ?_
    rw [List.length_map, decide_eq_false (by omega), rightF_end (by omega)]
    exact rfl
  | d + 1, i, hd => by
    have hi : i < a.length := by omega
    have ih := loop15_2 a hl d (i + 1) (by omega)
    refine turnK (t15_2 a i (U.refsFrom a.length (U.ob a i).refs 0) (.box (encO (U.ob a i))) _) ?_
    have e0 : rdL (rowAt (a.map encO) i) 0 = (U.ob a i).refs.map encI := by rw [rowO hi]; rfl
    have e1 : rdL (rowAt (a.map encO) i) 1 = (U.ob a i).ints.map encI := by rw [rowO hi]; rfl
    rw [List.length_map, decide_eq_true (by omega), e0, e1, getO hi, List.length_map, List.length_map, wrapS hi hl, rightF_step a hi]
    refine ⟨⟨by omega, rfl⟩, ?_⟩
    by_cases h1 : ((U.ob a i).refs.length : Int) > 8
    · have hb : U.badOb a.length (U.ob a i) = true := by
        cases hb : U.badOb a.length (U.ob a i) with
        | true => rfl
        | false => have := ((badOb_iff _ _).1 hb).1; omega
      rw [decide_eq_true h1, hb]; exact rfl
    rw [decide_eq_false h1]
    by_cases h2 : ((U.ob a i).ints.length : Int) > 8
    · have hb : U.badOb a.length (U.ob a i) = true := by
        cases hb : U.badOb a.length (U.ob a i) with
        | true => rfl
        | false => have := ((badOb_iff _ _).1 hb).2.1; omega
      rw [decide_eq_true h2, hb]; exact rfl
    rw [decide_eq_false h2, badOb_bool _ _ (by omega) (by omega)]
    have h8 := loop15_8 a (U.ob a i) i (by omega) (U.ob a i).refs.length 0 (by omega)
    cases hf : U.refsFrom a.length (U.ob a i).refs 0 with
    | true =>
      rw [hf] at h8
      exact ⟨h8, ih⟩
    | false =>
      rw [hf] at h8
      exact ⟨h8, rfl⟩
theorem rightFrom_zero (a : List Obj) : U.rightFrom a 0 = U.right a := by
  rw [Bool.eq_iff_iff, right_iff]
  unfold U.rightFrom
  rw [allFrom_iff]
  constructor
  · intro h o ho
    obtain ⟨j, hj, rfl⟩ := mem_getD ho
    have := h j (Nat.zero_le _) hj
    rw [Bool.not_eq_true'] at this
    exact this
  · intro h j _ hj
    rw [h _ (ob_mem hj)]; rfl
theorem wf15 (a : List Obj) (hl : a.length < 1000000) : Wf Try.prog H 15 [hp a] [] = some (goB (U.right a), [], []) := by
  refine runK (t15 a (U.right a) _) ?_
  have h := loop15_2 a hl a.length 0 (by omega)
  rw [rightFrom_zero] at h
  cases hr : U.right a with
  | true => rw [hr] at h; exact ⟨h, rfl⟩
  | false => rw [hr] at h; exact ⟨h, rfl⟩
/-- What is reached is but one list. -/
theorem reach_eq {hs : List Obj} {l out : List Int} (h : BfsTo hs [] l out) : U.isort out = U.reach hs l := by
  have g : BfsTo hs [] l (Classical.epsilon (BfsTo hs [] l)) := Classical.epsilon_spec ⟨out, h⟩
  unfold U.reach
  exact sorted_unique ((isort_perm _).trans (((List.perm_ext_iff_of_nodup h.nodup g.nodup).2 (fun x => h.same g x)).trans (isort_perm _).symm)) (isort_sorted _) (isort_sorted _)
theorem reachR_map (hs : List Obj) (l : List Int) : U.reachR (hs.map encO) (l.map encI) = (U.reach hs l).map encI := by unfold U.reachR; rw [decO_map, decI1]
theorem wf17r {hs : List Obj} (hr : U.right hs = true) (hl : hs.length ≤ 1000) (l : List Int) (hll : l.length ≤ 1000) :
    (∃ out, BfsTo hs [] l out ∧ U.isort out = U.reach hs l) ∧ (U.reach hs l).length ≤ 1000 ∧ Wf Try.prog H 17 [hp hs, .sl (l.map encI)] [] = some (.os 0 0 (U.reach hs l).length, [.arr 1 ((U.reach hs l).map encI)], []) := by
  obtain ⟨out, b1, b2⟩ := wf17 hr hl l hll
  have e := reach_eq b1
  have hlen := isort_len out
  rw [e] at hlen b2
  have := lens_le b1.val b1.nodup
  exact ⟨⟨out, b1, e⟩, by omega, by rw [hlen]; exact b2⟩
section
variable {h : List Obj} {p q : Int}
theorem made_ob {j : Nat} (hj : j < h.length) : U.ob (U.made h p q) j = U.ob h j := by
  unfold U.ob U.made
  unfold List.getD
  rw [List.getElem?_append_left hj]
theorem made_new : U.ob (U.made h p q) h.length = ⟨U.zeros p, U.zeros q⟩ := by
  unfold U.ob U.made
  unfold List.getD
  rw [List.getElem?_append_right (Nat.le_refl _), Nat.sub_self]; rfl
theorem zeros_len {n : Int} (hn : U.cnt n = true) : (U.zeros n).length ≤ 8 := by
  have := (cnt_iff n).1 hn
  unfold U.zeros; rw [List.length_replicate]; omega
theorem zeros_mem {n r : Int} (hr : r ∈ U.zeros n) : r = 0 := by unfold U.zeros at hr; exact List.eq_of_mem_replicate hr
theorem made_right (hr : U.right h = true) (hx : U.cnt p = true) (hy : U.cnt q = true) : U.right (U.made h p q) = true := by
  rw [right_iff] at hr ⊢
  intro o ho
  rw [made_len]
  rcases List.mem_append.1 (show o ∈ h ++ [⟨U.zeros p, U.zeros q⟩] from ho) with ho | ho
  · obtain ⟨h1, h2, h3⟩ := (badOb_iff _ _).1 (hr o ho)
    exact (badOb_iff _ _).2 ⟨h1, h2, fun r hr => by have := h3 r hr; omega⟩
  · rw [List.mem_singleton.1 ho]
    refine (badOb_iff _ _).2 ⟨zeros_len hx, zeros_len hy, fun r hr => ?_⟩
    rw [zeros_mem hr]; omega
theorem made_refs {x : Int} (hv : Val h.length x) : U.refsAt (U.made h p q) x = U.refsAt h x := by
  obtain ⟨v1, v2⟩ := hv
  unfold U.refsAt
  rw [made_ob (by omega)]
theorem made_refs_new : U.refsAt (U.made h p q) (h.length + 1) = U.zeros p := by
  unfold U.refsAt
  rw [show ((h.length : Int) + 1 - 1).toNat = h.length by omega, made_new]
/-- The new one reaches itself alone. -/
theorem made_alone {out : List Int} (hb : BfsTo (U.made h p q) [] [((h.length : Int) + 1)] out) : U.isort out = [((h.length : Int) + 1)] := by
  have hv : Val (U.made h p q).length ((h.length : Int) + 1) := ⟨by omega, by rw [made_len]; omega⟩
  have h1 : ((h.length : Int) + 1) ∈ out := hb.que _ (by simp) hv
  have h2 : ∀ x ∈ out, x = (h.length : Int) + 1 := hb.least (fun x => x = (h.length : Int) + 1) (fun _ h => (by cases h)) (fun x hx _ => by simpa using hx) (fun x _ hx r hr hrv => by
    rw [hx, made_refs_new] at hr
    have := zeros_mem hr
    have := hrv.1
    omega)
  have hp : out.Perm [((h.length : Int) + 1)] := (List.perm_ext_iff_of_nodup hb.nodup (by simp)).2 (fun x => ⟨fun hx => by simp [h2 x hx], fun hx => by rw [List.mem_singleton.1 hx]; exact h1⟩)
  have e := List.perm_singleton.1 hp
  rw [e]; rfl
/-- All others are reached as before. -/
theorem made_others (hr : U.right h = true) {l a b : List Int} (hn : (h.length : Int) + 1 ∉ l) (ha : BfsTo (U.made h p q) [] l a) (hb : BfsTo h [] l b) : ∀ x, x ∈ a ↔ x ∈ b := fun x => by
  have up : ∀ y, Val h.length y → Val (U.made h p q).length y := fun y hy => ⟨hy.1, by rw [made_len]; have := hy.2; omega⟩
  have inR : ∀ y, Val h.length y → ∀ r ∈ U.refsAt h y, 0 ≤ r ∧ r ≤ h.length := fun y hy r hr' => by
    obtain ⟨v1, v2⟩ := hy
    exact ((badOb_iff _ _).1 ((right_iff h).1 hr _ (ob_mem (show (y - 1).toNat < h.length by omega)))).2.2 r hr'
  constructor
  · intro hx
    refine ha.least (· ∈ b) (fun _ h => (by cases h)) (fun y hy hv => ?_) (fun y hv hy r hr' hrv => ?_) x hx
    · have hne : y ≠ (h.length : Int) + 1 := fun e => hn (e ▸ hy)
      have := hv.2
      rw [made_len] at this
      exact hb.que y hy ⟨hv.1, by omega⟩
    · have hv' := hb.val y hy
      rw [made_refs hv'] at hr'
      exact hb.closed y hy (by simp) r hr' ⟨hrv.1, (inR y hv' r hr').2⟩
  · intro hx
    refine hb.least (· ∈ a) (fun _ h => (by cases h)) (fun y hy hv => ha.que y hy (up y hv)) (fun y hv hy r hr' hrv => ?_) x hx
    exact ha.closed y hy (by simp) r (by rw [made_refs hv]; exact hr') (up r hrv)
theorem made_reach (hr : U.right h = true) {l a b : List Int} (hn : (h.length : Int) + 1 ∉ l) (ha : BfsTo (U.made h p q) [] l a) (hb : BfsTo h [] l b) : U.reach (U.made h p q) l = U.reach h l := by
  rw [← reach_eq ha, ← reach_eq hb]
  exact sorted_unique ((isort_perm _).trans (((List.perm_ext_iff_of_nodup ha.nodup hb.nodup).2 (made_others hr hn ha hb)).trans (isort_perm _).symm)) (isort_sorted _) (isort_sorted _)
end
theorem loop4_9 (h x : List Obj) (l : List Int) (id : Int) (hl : l.length < 1000000) : ∀ (d i : Nat), i + d = l.length →
    LoopTo Try.prog H (H 4) 0 (loopOf Try.prog 4 9) (mkS 78 [(2, .sl (l.map encI)), (3, .pt 0 0 0), (7, .pt 2 0 0), (8, goI id), (10, goI i)] [.box [.sl (h.map encO)], .dead, .box [.sl (x.map encO)]])
      (if id ∈ l.drop i then (.ret, mkS 78 [(6, goB true)] [.dead, .dead, .dead]) else (.exit 0, mkS 78 [(2, .sl (l.map encI)), (3, .pt 0 0 0), (7, .pt 2 0 0)] [.box [.sl (h.map encO)], .dead, .box [.sl (x.map encO)]]))
  | 0, i, hd => by
    refine turnK (t4_9 h x l id i _) ?_
    rw [List.length_map, decide_eq_false (by omega), List.drop_of_length_le (by omega), if_neg (by simp)]
    exact rfl
  | d + 1, i, hd => by
    have hi : i < l.length := by omega
    refine turnK (t4_9 h x l id i _) ?_
    have ih := loop4_9 h x l id hl d (i + 1) (by omega)
    have ed : l.drop i = U.nt l i :: l.drop (i + 1) := drop_cons' l hi
    have e1 : rdI (rowAt (l.map encI) i) 0 = U.nt l i := by rw [rowI hi]; rfl
    rw [List.length_map, decide_eq_true (by omega), wrapS hi hl, e1, getI hi, ed]
    refine ⟨⟨by omega, rfl⟩, ?_⟩
    by_cases hq : U.nt l i = id
    · rw [beq_iff_eq.2 hq, if_pos (by rw [hq]; simp)]; exact rfl
    · rw [beq_eq_false_iff_ne.2 hq]
      by_cases hm : id ∈ l.drop (i + 1)
      · rw [if_pos hm] at ih
        rw [if_pos (List.mem_cons_of_mem _ hm)]; exact ih
      · rw [if_neg hm] at ih
        rw [if_neg (fun q => (List.mem_cons.1 q).elim (fun e => hq e.symm) hm)]; exact ih
theorem tmod9 {a : Int} (h : 0 ≤ a ∧ a ≤ 255) : ∃ p, U.cnt p = true ∧ Int.tmod (IntKind.i64.wrap a) 9 = p := by
  refine ⟨_, ?_, rfl⟩
  rw [wrap64 (by omega) (by omega), Int.tmod_eq_emod_of_nonneg h.1, cnt_iff]
  omega
set_option maxHeartbeats 4000000 in
theorem wf4 (h : List Obj) (a b : Int) (l : List Int) (hh : Handed h) (ha : 0 ≤ a ∧ a ≤ 255) (hb : 0 ≤ b ∧ b ≤ 255) : Wf Try.prog H 4 [hp h, .agg [.v (.int .u8 a), .v (.int .u8 b)], .sl (l.map encI)] [] = some (goB true, [], []) := by
  obtain ⟨p, hp1, ep⟩ := tmod9 ha
  obtain ⟨q, hq1, eq⟩ := tmod9 hb
  have eg : U.greatR (h.map encO) = decide (U.great h h.length > 300) := by unfold U.greatR; rw [decO_map, List.length_map]
  have et : U.rightR (h.map encO) = U.right h := by unfold U.rightR; rw [decO_map]
  have t := fun s => t4 h (U.made h p q) a b l ((h.length : Int) + 1) s (goB true, [], [])
  rw [ep, eq, eg, et, madeR_map] at t
  have etk : List.take ((U.made h p q).map encO).length (List.drop 0 ((U.made h p q).map encO)) = (U.made h p q).map encO := take_all _
  rw [etk] at t
  by_cases hgr : U.great h h.length > 300
  · refine runK (t true) ⟨wf8, wf9 h hh, ?_⟩
    rw [decide_eq_true hgr]; exact rfl
  have hs := short_of hh (show U.great h h.length ≤ 300 by omega)
  have hl3 := great_len (show U.great h h.length ≤ 300 by omega)
  have h9 := wf9 h hh
  by_cases hl : (l.length : Int) > 50
  · refine runK (t true) ⟨wf8, wf9 h hh, ?_⟩
    rw [decide_eq_false hgr, List.length_map, decide_eq_true hl]; exact rfl
  have h15 := wf15 h hs.1
  cases hr : U.right h with
  | false =>
    rw [hr] at t h15
    refine runK (t true) ⟨wf8, wf9 h hh, ?_⟩
    rw [decide_eq_false hgr, List.length_map, decide_eq_false hl]
    exact ⟨h15, rfl⟩
  | true =>
    rw [hr] at t h15
    have hmr : U.right (U.made h p q) = true := made_right hr hp1 hq1
    have hml := made_len h p q
    have h11 := wf11 h p q hs.1 hr hp1 hq1
    rw [madeR_map] at h11
    obtain ⟨⟨o1, b1, _⟩, l1, k1⟩ := wf17r hmr (by omega) [(h.length : Int) + 1] (by simp)
    obtain ⟨⟨o2, b2, _⟩, l2, k2⟩ := wf17r hmr (by omega) l (by omega)
    obtain ⟨⟨o3, b3, _⟩, l3, k3⟩ := wf17r hr (by omega) l (by omega)
    have e1 : U.reach (U.made h p q) [(h.length : Int) + 1] = [(h.length : Int) + 1] := by rw [← reach_eq b1]; exact made_alone b1
    rw [e1] at k1
    have ei : ∀ x : List Int, U.intsR (x.map encI) (x.map encI) = true := fun x => (intsR_iff x x).2 rfl
    have h16 := wf16 [(h.length : Int) + 1] [(h.length : Int) + 1] (by simp)
    rw [ei] at h16
    have er1 : U.reachR ((U.made h p q).map encO) [[goI ((h.length : Int) + 1)]] = [[goI ((h.length : Int) + 1)]] := by
      have := reachR_map (U.made h p q) [(h.length : Int) + 1]
      rw [e1] at this
      exact this
    have eI : U.intsR [[goI ((h.length : Int) + 1)]] [[goI ((h.length : Int) + 1)]] = true := ei [(h.length : Int) + 1]
    have ew : IntKind.i64.wrap ((h.length : Int) + 1) = (h.length : Int) + 1 := by rw [wrap64] <;> omega
    have h4 := loop4_9 h (U.made h p q) l ((h.length : Int) + 1) (by omega) l.length 0 (by omega)
    rw [List.drop_zero] at h4
    have el1 : (h.map encO).length = h.length := List.length_map _
    have el2 : (l.map encI).length = l.length := List.length_map _
    have el3 : ((U.made h p q).map encO).length = h.length + 1 := by rw [List.length_map, hml]
    have c1 := reachR_map (U.made h p q) l
    have c2 := reachR_map h l
    have d1 : (((U.reach (U.made h p q) l).map encI).take ((U.reach (U.made h p q) l).map encI).length.succ.pred) = (U.reach (U.made h p q) l).map encI := take_all _
    rw [el1, el2, er1, ew] at t
    have t1 : List.take ([[goI ((h.length : Int) + 1)]] : List (List AV)).length (List.drop 0 [[goI ((h.length : Int) + 1)]]) = [[goI ((h.length : Int) + 1)]] := rfl
    rw [t1, eI, c1, c2, take_all, take_all, beq_self_eq_true] at t
    rw [el1] at h11
    by_cases hm : (h.length : Int) + 1 ∈ l
    · rw [if_pos hm] at h4
      refine runK (t true) ⟨wf8, h9, ?_⟩
      rw [decide_eq_false hgr, decide_eq_false hl]
      exact ⟨h15, ⟨by decide, by decide⟩, by decide, ⟨by decide, by decide⟩, by decide, h11, k1, h16, h4, rfl⟩
    · rw [if_neg hm] at h4
      have er := made_reach hr hm b2 b3
      have h16' := wf16 (U.reach h l) (U.reach h l) (by omega)
      have eI2 := ei (U.reach h l)
      refine runK (t false) ⟨wf8, h9, ?_⟩
      rw [er] at k2
      have el4 : ((U.reach h l).map encI).length = (U.reach h l).length := List.length_map _
      rw [decide_eq_false hgr, decide_eq_false hl, er, eI2, el4]
      rw [eI2] at h16'
      exact ⟨h15, ⟨by decide, by decide⟩, by decide, ⟨by decide, by decide⟩, by decide, h11, k1, h16, h4, k2, k3, h16', rfl⟩
end Go.Proofs.Ytnmnaomfohlmcaa.E
