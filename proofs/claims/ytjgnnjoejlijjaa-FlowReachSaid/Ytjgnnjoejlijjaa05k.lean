/- Functions, by what the evaluator asks; the theorems t.. were printed by show.txt, a program of this session. -/
import Derived.Test.Ytjgnnjoejlijjaa05j
set_option linter.unusedVariables false
set_option linter.unusedSimpArgs false
set_option maxRecDepth 100000
namespace Go.Proofs.Ytjgnnjoejlijjaa.E
open Go
def F4 (o : Bool) : CallT := fun f args sto => match f, args with
 | 12, _ => .is (goB true, [], [])
 | 13, _ => .is (goB o, [], [])
 | 15, [.agg [_, _, _, _, .sl bl], .v (.int _ n)] => .is (.sl (U.nextR bl n), [], [])
 | 17, [.agg [_, _, _, _, .sl bl], .v (.int _ n)] => .is (.os 0 0 (U.prevR bl n).length, [.arr 1 ((U.prevR bl n).map encI)], [])
 | 20, [.agg [_, _, _, _, .sl bl]] => .is (.os 0 0 (U.edgesR bl).length, [.arr 2 ((U.edgesR bl).map encE)], [])
 | _, _ => .no
def L4 (x y z : Bool) : Nat → St → LT := fun id st => match id with
 | 13 => .is (.exit 2) ⟨((st.env.set 12 (goB x)).set 9 .dead).set 15 .dead, st.sto, st.mv⟩
 | 17 => .is (.exit 4) ⟨((st.env.set 13 (goB y)).set 10 .dead).set 16 .dead, st.sto, st.mv⟩
 | 21 => .is (.exit 6) ⟨((((st.env.set 14 (goB z)).set 11 .dead).set 17 .dead).set 7 .dead).set 8 .dead, st.sto, st.mv⟩
 | _ => .no
set_option maxHeartbeats 4000000

theorem t4 (a : List XF) (u : Int) (v : Int) (o : Bool) (r : AV × List Row × List Nat) : (runT Try.prog H (F4 o) (fun id st => LT.is (Ex.exit 0) (mkS 111 [] [Row.dead, Row.dead, Row.dead])) false 4
  [AV.agg [AV.sl (List.map encF a)], AV.agg [AV.v (Value.int IntKind.u8 u), AV.v (Value.int IntKind.u8 v)]] [] fun q =>
  q = r) = (Wf Try.prog H 12 [] [] = some (goB true, [], []) ∧
  Wf Try.prog H 13 [AV.agg [AV.sl (List.map encF a)]] [] = some (goB o, [], []) ∧
    TB o ((goB true, [], []) = r)
      (LoopTo Try.prog H (H 4) 0 (loopOf Try.prog 4 6)
          (mkS 111 [(2, AV.pt 0 0 0), (3, AV.pt 1 0 0), (5, goI 0)]
            [Row.box [AV.sl (List.map encF a)], Row.box [AV.v (Value.int IntKind.u8 u), AV.v (Value.int IntKind.u8 v)],
              Row.dead])
          (Ex.exit 0, mkS 111 [] [Row.dead, Row.dead, Row.dead]) ∧
        (goB true, [], []) = r)) := by kernel_rfl
theorem t4_6 (a : List XF) (u : Int) (v : Int) (i : Nat) (x : Bool) (y : Bool) (z : Bool) (r : Ex × St) : (turnT Try.prog H (F4 false) (L4 x y z) false (H 4) 0 (loopOf Try.prog 4 6)
  (mkS 111 [(2, AV.pt 0 0 0), (3, AV.pt 1 0 0), (5, goI (↑i : Int))]
    [Row.box [AV.sl (List.map encF a)], Row.box [AV.v (Value.int IntKind.u8 u), AV.v (Value.int IntKind.u8 v)],
      Row.dead])
  r) = (TB (decide ((↑i : Int) < (↑(List.length (List.map encF a)) : Int)))
  ((0 ≤ (↑i : Int) ∧
      (List.map encF a)[i]? =
        some
          [AV.sl (rdL (rowAt (List.map encF a) i) 0), AV.sl (rdL (rowAt (List.map encF a) i) 1),
            goI (rdI (rowAt (List.map encF a) i) 2), goI (rdI (rowAt (List.map encF a) i) 3),
            AV.sl (rdL (rowAt (List.map encF a) i) 4)]) ∧
    (iz 0 ≤ 0 ∧ 0 < (↑2 : Int)) ∧
      (↑(List.length (rdL (rowAt (List.map encF a) i) 4)) : Int) ≠ 0 ∧
        (iz 0 ≤ 1 ∧ 1 < (↑2 : Int)) ∧
          (↑(List.length (rdL (rowAt (List.map encF a) i) 4)) : Int) ≠ 0 ∧
            Wf Try.prog H 15
                  [AV.agg
                      [AV.sl (rdL (rowAt (List.map encF a) i) 0), AV.sl (rdL (rowAt (List.map encF a) i) 1),
                        goI (rdI (rowAt (List.map encF a) i) 2), goI (rdI (rowAt (List.map encF a) i) 3),
                        AV.sl (rdL (rowAt (List.map encF a) i) 4)],
                    goI
                      (Int.tmod (IntKind.wrap IntKind.i64 u)
                        (↑(List.length (rdL (rowAt (List.map encF a) i) 4)) : Int))]
                  [] =
                some
                  (AV.sl
                      (U.nextR (rdL (rowAt (List.map encF a) i) 4)
                        (Int.tmod (IntKind.wrap IntKind.i64 u)
                          (↑(List.length (rdL (rowAt (List.map encF a) i) 4)) : Int))),
                    [], []) ∧
              Wf Try.prog H 17
                    [AV.agg
                        [AV.sl (rdL (rowAt (List.map encF a) i) 0), AV.sl (rdL (rowAt (List.map encF a) i) 1),
                          goI (rdI (rowAt (List.map encF a) i) 2), goI (rdI (rowAt (List.map encF a) i) 3),
                          AV.sl (rdL (rowAt (List.map encF a) i) 4)],
                      goI
                        (Int.tmod (IntKind.wrap IntKind.i64 v)
                          (↑(List.length (rdL (rowAt (List.map encF a) i) 4)) : Int))]
                    [] =
                  some
                    (AV.os 0 0
                        (List.length
                          (U.prevR (rdL (rowAt (List.map encF a) i) 4)
                            (Int.tmod (IntKind.wrap IntKind.i64 v)
                              (↑(List.length (rdL (rowAt (List.map encF a) i) 4)) : Int)))),
                      [Row.arr 1
                          (List.map encI
                            (U.prevR (rdL (rowAt (List.map encF a) i) 4)
                              (Int.tmod (IntKind.wrap IntKind.i64 v)
                                (↑(List.length (rdL (rowAt (List.map encF a) i) 4)) : Int))))],
                      []) ∧
                Wf Try.prog H 20
                      [AV.agg
                          [AV.sl (rdL (rowAt (List.map encF a) i) 0), AV.sl (rdL (rowAt (List.map encF a) i) 1),
                            goI (rdI (rowAt (List.map encF a) i) 2), goI (rdI (rowAt (List.map encF a) i) 3),
                            AV.sl (rdL (rowAt (List.map encF a) i) 4)]]
                      [] =
                    some
                      (AV.os 0 0 (List.length (U.edgesR (rdL (rowAt (List.map encF a) i) 4))),
                        [Row.arr 2 (List.map encE (U.edgesR (rdL (rowAt (List.map encF a) i) 4)))], []) ∧
                  LoopTo Try.prog H (H 4) 0 (loopOf Try.prog 4 13)
                      (mkS 111
                        [(2, AV.pt 0 0 0), (3, AV.pt 1 0 0), (5, goI (↑i : Int)),
                          (7,
                            goI
                              (Int.tmod (IntKind.wrap IntKind.i64 u)
                                (↑(List.length (rdL (rowAt (List.map encF a) i) 4)) : Int))),
                          (8,
                            goI
                              (Int.tmod (IntKind.wrap IntKind.i64 v)
                                (↑(List.length (rdL (rowAt (List.map encF a) i) 4)) : Int))),
                          (9,
                            AV.sl
                              (U.nextR (rdL (rowAt (List.map encF a) i) 4)
                                (Int.tmod (IntKind.wrap IntKind.i64 u)
                                  (↑(List.length (rdL (rowAt (List.map encF a) i) 4)) : Int)))),
                          (10,
                            AV.sl
                              (List.take
                                (List.length
                                  (U.prevR (rdL (rowAt (List.map encF a) i) 4)
                                    (Int.tmod (IntKind.wrap IntKind.i64 v)
                                      (↑(List.length (rdL (rowAt (List.map encF a) i) 4)) : Int))))
                                (List.drop 0
                                  (List.map encI
                                    (U.prevR (rdL (rowAt (List.map encF a) i) 4)
                                      (Int.tmod (IntKind.wrap IntKind.i64 v)
                                        (↑(List.length (rdL (rowAt (List.map encF a) i) 4)) : Int))))))),
                          (11,
                            AV.sl
                              (List.take (List.length (U.edgesR (rdL (rowAt (List.map encF a) i) 4)))
                                (List.drop 0 (List.map encE (U.edgesR (rdL (rowAt (List.map encF a) i) 4)))))),
                          (12, goB false), (13, goB false), (14, goB false), (15, goI 0)]
                        [Row.box [AV.sl (List.map encF a)],
                          Row.box [AV.v (Value.int IntKind.u8 u), AV.v (Value.int IntKind.u8 v)],
                          Row.box
                            [AV.sl (rdL (rowAt (List.map encF a) i) 0), AV.sl (rdL (rowAt (List.map encF a) i) 1),
                              goI (rdI (rowAt (List.map encF a) i) 2), goI (rdI (rowAt (List.map encF a) i) 3),
                              AV.sl (rdL (rowAt (List.map encF a) i) 4)]])
                      (Ex.exit 2,
                        mkS 111
                          [(2, AV.pt 0 0 0), (3, AV.pt 1 0 0), (5, goI (↑i : Int)),
                            (7,
                              goI
                                (Int.tmod (IntKind.wrap IntKind.i64 u)
                                  (↑(List.length (rdL (rowAt (List.map encF a) i) 4)) : Int))),
                            (8,
                              goI
                                (Int.tmod (IntKind.wrap IntKind.i64 v)
                                  (↑(List.length (rdL (rowAt (List.map encF a) i) 4)) : Int))),
                            (10,
                              AV.sl
                                (List.take
                                  (List.length
                                    (U.prevR (rdL (rowAt (List.map encF a) i) 4)
                                      (Int.tmod (IntKind.wrap IntKind.i64 v)
                                        (↑(List.length (rdL (rowAt (List.map encF a) i) 4)) : Int))))
                                  (List.drop 0
                                    (List.map encI
                                      (U.prevR (rdL (rowAt (List.map encF a) i) 4)
                                        (Int.tmod (IntKind.wrap IntKind.i64 v)
                                          (↑(List.length (rdL (rowAt (List.map encF a) i) 4)) : Int))))))),
                            (11,
                              AV.sl
                                (List.take (List.length (U.edgesR (rdL (rowAt (List.map encF a) i) 4)))
                                  (List.drop 0 (List.map encE (U.edgesR (rdL (rowAt (List.map encF a) i) 4)))))),
                            (12, goB x), (13, goB false), (14, goB false)]
                          [Row.box [AV.sl (List.map encF a)],
                            Row.box [AV.v (Value.int IntKind.u8 u), AV.v (Value.int IntKind.u8 v)],
                            Row.box
                              [AV.sl (rdL (rowAt (List.map encF a) i) 0), AV.sl (rdL (rowAt (List.map encF a) i) 1),
                                goI (rdI (rowAt (List.map encF a) i) 2), goI (rdI (rowAt (List.map encF a) i) 3),
                                AV.sl (rdL (rowAt (List.map encF a) i) 4)]]) ∧
                    LoopTo Try.prog H (H 4) 0 (loopOf Try.prog 4 17)
                        (mkS 111
                          [(2, AV.pt 0 0 0), (3, AV.pt 1 0 0), (5, goI (↑i : Int)),
                            (7,
                              goI
                                (Int.tmod (IntKind.wrap IntKind.i64 u)
                                  (↑(List.length (rdL (rowAt (List.map encF a) i) 4)) : Int))),
                            (8,
                              goI
                                (Int.tmod (IntKind.wrap IntKind.i64 v)
                                  (↑(List.length (rdL (rowAt (List.map encF a) i) 4)) : Int))),
                            (10,
                              AV.sl
                                (List.take
                                  (List.length
                                    (U.prevR (rdL (rowAt (List.map encF a) i) 4)
                                      (Int.tmod (IntKind.wrap IntKind.i64 v)
                                        (↑(List.length (rdL (rowAt (List.map encF a) i) 4)) : Int))))
                                  (List.drop 0
                                    (List.map encI
                                      (U.prevR (rdL (rowAt (List.map encF a) i) 4)
                                        (Int.tmod (IntKind.wrap IntKind.i64 v)
                                          (↑(List.length (rdL (rowAt (List.map encF a) i) 4)) : Int))))))),
                            (11,
                              AV.sl
                                (List.take (List.length (U.edgesR (rdL (rowAt (List.map encF a) i) 4)))
                                  (List.drop 0 (List.map encE (U.edgesR (rdL (rowAt (List.map encF a) i) 4)))))),
                            (12, goB x), (13, goB false), (14, goB false), (16, goI 0)]
                          [Row.box [AV.sl (List.map encF a)],
                            Row.box [AV.v (Value.int IntKind.u8 u), AV.v (Value.int IntKind.u8 v)],
                            Row.box
                              [AV.sl (rdL (rowAt (List.map encF a) i) 0), AV.sl (rdL (rowAt (List.map encF a) i) 1),
                                goI (rdI (rowAt (List.map encF a) i) 2), goI (rdI (rowAt (List.map encF a) i) 3),
                                AV.sl (rdL (rowAt (List.map encF a) i) 4)]])
                        (Ex.exit 4,
                          mkS 111
                            [(2, AV.pt 0 0 0), (3, AV.pt 1 0 0), (5, goI (↑i : Int)),
                              (7,
                                goI
                                  (Int.tmod (IntKind.wrap IntKind.i64 u)
                                    (↑(List.length (rdL (rowAt (List.map encF a) i) 4)) : Int))),
                              (8,
                                goI
                                  (Int.tmod (IntKind.wrap IntKind.i64 v)
                                    (↑(List.length (rdL (rowAt (List.map encF a) i) 4)) : Int))),
                              (11,
                                AV.sl
                                  (List.take (List.length (U.edgesR (rdL (rowAt (List.map encF a) i) 4)))
                                    (List.drop 0 (List.map encE (U.edgesR (rdL (rowAt (List.map encF a) i) 4)))))),
                              (12, goB x), (13, goB y), (14, goB false)]
                            [Row.box [AV.sl (List.map encF a)],
                              Row.box [AV.v (Value.int IntKind.u8 u), AV.v (Value.int IntKind.u8 v)],
                              Row.box
                                [AV.sl (rdL (rowAt (List.map encF a) i) 0), AV.sl (rdL (rowAt (List.map encF a) i) 1),
                                  goI (rdI (rowAt (List.map encF a) i) 2), goI (rdI (rowAt (List.map encF a) i) 3),
                                  AV.sl (rdL (rowAt (List.map encF a) i) 4)]]) ∧
                      LoopTo Try.prog H (H 4) 0 (loopOf Try.prog 4 21)
                          (mkS 111
                            [(2, AV.pt 0 0 0), (3, AV.pt 1 0 0), (5, goI (↑i : Int)),
                              (7,
                                goI
                                  (Int.tmod (IntKind.wrap IntKind.i64 u)
                                    (↑(List.length (rdL (rowAt (List.map encF a) i) 4)) : Int))),
                              (8,
                                goI
                                  (Int.tmod (IntKind.wrap IntKind.i64 v)
                                    (↑(List.length (rdL (rowAt (List.map encF a) i) 4)) : Int))),
                              (11,
                                AV.sl
                                  (List.take (List.length (U.edgesR (rdL (rowAt (List.map encF a) i) 4)))
                                    (List.drop 0 (List.map encE (U.edgesR (rdL (rowAt (List.map encF a) i) 4)))))),
                              (12, goB x), (13, goB y), (14, goB false), (17, goI 0)]
                            [Row.box [AV.sl (List.map encF a)],
                              Row.box [AV.v (Value.int IntKind.u8 u), AV.v (Value.int IntKind.u8 v)],
                              Row.box
                                [AV.sl (rdL (rowAt (List.map encF a) i) 0), AV.sl (rdL (rowAt (List.map encF a) i) 1),
                                  goI (rdI (rowAt (List.map encF a) i) 2), goI (rdI (rowAt (List.map encF a) i) 3),
                                  AV.sl (rdL (rowAt (List.map encF a) i) 4)]])
                          (Ex.exit 6,
                            mkS 111
                              [(2, AV.pt 0 0 0), (3, AV.pt 1 0 0), (5, goI (↑i : Int)), (12, goB x), (13, goB y),
                                (14, goB z)]
                              [Row.box [AV.sl (List.map encF a)],
                                Row.box [AV.v (Value.int IntKind.u8 u), AV.v (Value.int IntKind.u8 v)],
                                Row.box
                                  [AV.sl (rdL (rowAt (List.map encF a) i) 0), AV.sl (rdL (rowAt (List.map encF a) i) 1),
                                    goI (rdI (rowAt (List.map encF a) i) 2), goI (rdI (rowAt (List.map encF a) i) 3),
                                    AV.sl (rdL (rowAt (List.map encF a) i) 4)]]) ∧
                        TB (!x == y) ((Ex.ret, mkS 111 [(4, goB false)] [Row.dead, Row.dead, Row.dead]) = r)
                          (TB (!y == z) ((Ex.ret, mkS 111 [(4, goB false)] [Row.dead, Row.dead, Row.dead]) = r)
                            (LoopTo Try.prog H (H 4) 0 (loopOf Try.prog 4 6)
                              (mkS 111
                                [(2, AV.pt 0 0 0), (3, AV.pt 1 0 0),
                                  (5, goI (IntKind.wrap IntKind.i64 ((↑i : Int) + 1)))]
                                [Row.box [AV.sl (List.map encF a)],
                                  Row.box [AV.v (Value.int IntKind.u8 u), AV.v (Value.int IntKind.u8 v)], Row.dead])
                              r)))
  ((Ex.exit 0, mkS 111 [] [Row.dead, Row.dead, Row.dead]) = r)) := by kernel_rfl
theorem t4_13 (X : List (List AV)) (u : Int) (v : Int) (A : Int) (B : Int) (p : Int) (q : Int) (ks : List (List AV)) (bs : List (List AV)) (bl : List (List AV)) (P : List (List AV)) (E : List (List AV)) (i : Nat) (k : Nat) (nx : List Int) (x : Bool) (y : Bool) (z : Bool) (r : Ex × St) : (turnT Try.prog H (fun f args sto => CT.of (F0 f args sto)) L0 false (H 4) 0 (loopOf Try.prog 4 13)
  (mkS 111
    [(2, AV.pt 0 0 0), (3, AV.pt 1 0 0), (5, goI (↑i : Int)), (7, goI A), (8, goI B), (9, AV.sl (List.map encI nx)),
      (10, AV.sl P), (11, AV.sl E), (12, goB x), (13, goB y), (14, goB z), (15, goI (↑k : Int))]
    [Row.box [AV.sl X], Row.box [AV.v (Value.int IntKind.u8 u), AV.v (Value.int IntKind.u8 v)],
      Row.box [AV.sl ks, AV.sl bs, goI p, goI q, AV.sl bl]])
  r) = (TB (decide ((↑k : Int) < (↑(List.length (List.map encI nx)) : Int)))
  (TB x
    (LoopTo Try.prog H (H 4) 0 (loopOf Try.prog 4 13)
      (mkS 111
        [(2, AV.pt 0 0 0), (3, AV.pt 1 0 0), (5, goI (↑i : Int)), (7, goI A), (8, goI B), (9, AV.sl (List.map encI nx)),
          (10, AV.sl P), (11, AV.sl E), (12, goB true), (13, goB y), (14, goB z),
          (15, goI (IntKind.wrap IntKind.i64 ((↑k : Int) + 1)))]
        [Row.box [AV.sl X], Row.box [AV.v (Value.int IntKind.u8 u), AV.v (Value.int IntKind.u8 v)],
          Row.box [AV.sl ks, AV.sl bs, goI p, goI q, AV.sl bl]])
      r)
    ((0 ≤ (↑k : Int) ∧ (List.map encI nx)[k]? = some [goI (rdI (rowAt (List.map encI nx) k) 0)]) ∧
      LoopTo Try.prog H (H 4) 0 (loopOf Try.prog 4 13)
        (mkS 111
          [(2, AV.pt 0 0 0), (3, AV.pt 1 0 0), (5, goI (↑i : Int)), (7, goI A), (8, goI B),
            (9, AV.sl (List.map encI nx)), (10, AV.sl P), (11, AV.sl E),
            (12, goB (rdI (rowAt (List.map encI nx) k) 0 == B)), (13, goB y), (14, goB z),
            (15, goI (IntKind.wrap IntKind.i64 ((↑k : Int) + 1)))]
          [Row.box [AV.sl X], Row.box [AV.v (Value.int IntKind.u8 u), AV.v (Value.int IntKind.u8 v)],
            Row.box [AV.sl ks, AV.sl bs, goI p, goI q, AV.sl bl]])
        r))
  ((Ex.exit 2,
      mkS 111
        [(2, AV.pt 0 0 0), (3, AV.pt 1 0 0), (5, goI (↑i : Int)), (7, goI A), (8, goI B), (10, AV.sl P), (11, AV.sl E),
          (12, goB x), (13, goB y), (14, goB z)]
        [Row.box [AV.sl X], Row.box [AV.v (Value.int IntKind.u8 u), AV.v (Value.int IntKind.u8 v)],
          Row.box [AV.sl ks, AV.sl bs, goI p, goI q, AV.sl bl]]) =
    r)) := by kernel_rfl
theorem t4_17 (X : List (List AV)) (u : Int) (v : Int) (A : Int) (B : Int) (p : Int) (q : Int) (ks : List (List AV)) (bs : List (List AV)) (bl : List (List AV)) (E : List (List AV)) (i : Nat) (k : Nat) (nx : List Int) (x : Bool) (y : Bool) (z : Bool) (r : Ex × St) : (turnT Try.prog H (fun f args sto => CT.of (F0 f args sto)) L0 false (H 4) 0 (loopOf Try.prog 4 17)
  (mkS 111
    [(2, AV.pt 0 0 0), (3, AV.pt 1 0 0), (5, goI (↑i : Int)), (7, goI A), (8, goI B), (10, AV.sl (List.map encI nx)),
      (11, AV.sl E), (12, goB x), (13, goB y), (14, goB z), (16, goI (↑k : Int))]
    [Row.box [AV.sl X], Row.box [AV.v (Value.int IntKind.u8 u), AV.v (Value.int IntKind.u8 v)],
      Row.box [AV.sl ks, AV.sl bs, goI p, goI q, AV.sl bl]])
  r) = (TB (decide ((↑k : Int) < (↑(List.length (List.map encI nx)) : Int)))
  (TB y
    (LoopTo Try.prog H (H 4) 0 (loopOf Try.prog 4 17)
      (mkS 111
        [(2, AV.pt 0 0 0), (3, AV.pt 1 0 0), (5, goI (↑i : Int)), (7, goI A), (8, goI B),
          (10, AV.sl (List.map encI nx)), (11, AV.sl E), (12, goB x), (13, goB true), (14, goB z),
          (16, goI (IntKind.wrap IntKind.i64 ((↑k : Int) + 1)))]
        [Row.box [AV.sl X], Row.box [AV.v (Value.int IntKind.u8 u), AV.v (Value.int IntKind.u8 v)],
          Row.box [AV.sl ks, AV.sl bs, goI p, goI q, AV.sl bl]])
      r)
    ((0 ≤ (↑k : Int) ∧ (List.map encI nx)[k]? = some [goI (rdI (rowAt (List.map encI nx) k) 0)]) ∧
      LoopTo Try.prog H (H 4) 0 (loopOf Try.prog 4 17)
        (mkS 111
          [(2, AV.pt 0 0 0), (3, AV.pt 1 0 0), (5, goI (↑i : Int)), (7, goI A), (8, goI B),
            (10, AV.sl (List.map encI nx)), (11, AV.sl E), (12, goB x),
            (13, goB (rdI (rowAt (List.map encI nx) k) 0 == A)), (14, goB z),
            (16, goI (IntKind.wrap IntKind.i64 ((↑k : Int) + 1)))]
          [Row.box [AV.sl X], Row.box [AV.v (Value.int IntKind.u8 u), AV.v (Value.int IntKind.u8 v)],
            Row.box [AV.sl ks, AV.sl bs, goI p, goI q, AV.sl bl]])
        r))
  ((Ex.exit 4,
      mkS 111
        [(2, AV.pt 0 0 0), (3, AV.pt 1 0 0), (5, goI (↑i : Int)), (7, goI A), (8, goI B), (11, AV.sl E), (12, goB x),
          (13, goB y), (14, goB z)]
        [Row.box [AV.sl X], Row.box [AV.v (Value.int IntKind.u8 u), AV.v (Value.int IntKind.u8 v)],
          Row.box [AV.sl ks, AV.sl bs, goI p, goI q, AV.sl bl]]) =
    r)) := by kernel_rfl
theorem t4_21 (X : List (List AV)) (u : Int) (v : Int) (A : Int) (B : Int) (p : Int) (q : Int) (ks : List (List AV)) (bs : List (List AV)) (bl : List (List AV)) (i : Nat) (k : Nat) (nx : List XE) (x : Bool) (y : Bool) (z : Bool) (r : Ex × St) : (turnT Try.prog H (fun f args sto => CT.of (F0 f args sto)) L0 false (H 4) 0 (loopOf Try.prog 4 21)
  (mkS 111
    [(2, AV.pt 0 0 0), (3, AV.pt 1 0 0), (5, goI (↑i : Int)), (7, goI A), (8, goI B), (11, AV.sl (List.map encE nx)),
      (12, goB x), (13, goB y), (14, goB z), (17, goI (↑k : Int))]
    [Row.box [AV.sl X], Row.box [AV.v (Value.int IntKind.u8 u), AV.v (Value.int IntKind.u8 v)],
      Row.box [AV.sl ks, AV.sl bs, goI p, goI q, AV.sl bl]])
  r) = (TB (decide ((↑k : Int) < (↑(List.length (List.map encE nx)) : Int)))
  (TB z
    (LoopTo Try.prog H (H 4) 0 (loopOf Try.prog 4 21)
      (mkS 111
        [(2, AV.pt 0 0 0), (3, AV.pt 1 0 0), (5, goI (↑i : Int)), (7, goI A), (8, goI B),
          (11, AV.sl (List.map encE nx)), (12, goB x), (13, goB y), (14, goB true),
          (17, goI (IntKind.wrap IntKind.i64 ((↑k : Int) + 1)))]
        [Row.box [AV.sl X], Row.box [AV.v (Value.int IntKind.u8 u), AV.v (Value.int IntKind.u8 v)],
          Row.box [AV.sl ks, AV.sl bs, goI p, goI q, AV.sl bl]])
      r)
    ((0 ≤ (↑k : Int) ∧
        (List.map encE nx)[k]? =
          some [goI (rdI (rowAt (List.map encE nx) k) 0), goI (rdI (rowAt (List.map encE nx) k) 1)]) ∧
      LoopTo Try.prog H (H 4) 0 (loopOf Try.prog 4 21)
        (mkS 111
          [(2, AV.pt 0 0 0), (3, AV.pt 1 0 0), (5, goI (↑i : Int)), (7, goI A), (8, goI B),
            (11, AV.sl (List.map encE nx)), (12, goB x), (13, goB y),
            (14, goB (rdI (rowAt (List.map encE nx) k) 0 == A && (rdI (rowAt (List.map encE nx) k) 1 == B && true))),
            (17, goI (IntKind.wrap IntKind.i64 ((↑k : Int) + 1)))]
          [Row.box [AV.sl X], Row.box [AV.v (Value.int IntKind.u8 u), AV.v (Value.int IntKind.u8 v)],
            Row.box [AV.sl ks, AV.sl bs, goI p, goI q, AV.sl bl]])
        r))
  ((Ex.exit 6,
      mkS 111 [(2, AV.pt 0 0 0), (3, AV.pt 1 0 0), (5, goI (↑i : Int)), (12, goB x), (13, goB y), (14, goB z)]
        [Row.box [AV.sl X], Row.box [AV.v (Value.int IntKind.u8 u), AV.v (Value.int IntKind.u8 v)],
          Row.box [AV.sl ks, AV.sl bs, goI p, goI q, AV.sl bl]]) =
    r)) := by kernel_rfl
theorem mem_prevFrom (bl : List XB) (n : Int) (x : Int) : ∀ d i, x ∈ U.prevFrom bl n d i ↔ (0 ≤ n ∧ n < bl.length) ∧ ∃ j : Nat, i ≤ j ∧ j < i + d ∧ x = j ∧ n ∈ U.nextAt bl j
  | 0, i => by
    constructor
    · intro h; cases h
    · rintro ⟨_, j, h1, h2, _⟩; omega
  | d + 1, i => by
    have ih := mem_prevFrom bl n x d (i + 1)
    unfold U.prevFrom
    rw [List.mem_append, ih]
    constructor
    · rintro (h | ⟨h1, j, h2, h3, h4⟩)
      · split at h
        · rename_i hc
          rw [Bool.and_eq_true, Bool.and_eq_true, decide_eq_true_eq, decide_eq_true_eq, hasI_iff] at hc
          exact ⟨⟨hc.1, hc.2.1⟩, i, Nat.le_refl _, by omega, by simpa using h, hc.2.2⟩
        · cases h
      · exact ⟨h1, j, by omega, by omega, h4⟩
    · rintro ⟨h1, j, h2, h3, h4, h5⟩
      by_cases e : j = i
      · subst e
        left
        rw [if_pos (by rw [Bool.and_eq_true, Bool.and_eq_true, decide_eq_true_eq, decide_eq_true_eq, hasI_iff]; exact ⟨h1.1, h1.2, h5⟩)]
        simpa using h4
      · exact Or.inr ⟨h1, j, by omega, by omega, h4, h5⟩
theorem mem_prevAt (bl : List XB) (n : Int) (x : Int) : x ∈ U.prevAt bl n ↔ (0 ≤ n ∧ n < bl.length) ∧ ∃ j : Nat, j < bl.length ∧ x = j ∧ n ∈ U.nextAt bl j := by
  unfold U.prevAt
  rw [mem_prevFrom]
  constructor
  · rintro ⟨h1, j, _, h3, h4⟩; exact ⟨h1, j, by omega, h4⟩
  · rintro ⟨h1, j, h3, h4⟩; exact ⟨h1, j, by omega, by omega, h4⟩
theorem mem_edgesFrom (bl : List XB) (e : XE) : ∀ d i, e ∈ U.edgesFrom bl d i ↔ ∃ j : Nat, i ≤ j ∧ j < i + d ∧ e.src = j ∧ e.dst ∈ U.nextAt bl j
  | 0, i => by
    constructor
    · intro h; cases h
    · rintro ⟨j, h1, h2, _⟩; omega
  | d + 1, i => by
    have ih := mem_edgesFrom bl e d (i + 1)
    unfold U.edgesFrom
    rw [List.mem_append, ih]
    constructor
    · rintro (h | ⟨j, h2, h3, h4⟩)
      · unfold U.edgeTo at h
        obtain ⟨t, ht, rfl⟩ := List.mem_map.1 h
        exact ⟨i, Nat.le_refl _, by omega, rfl, ht⟩
      · exact ⟨j, by omega, by omega, h4⟩
    · rintro ⟨j, h2, h3, h4, h5⟩
      by_cases e : j = i
      · subst e
        left
        unfold U.edgeTo
        exact List.mem_map.2 ⟨e.dst, h5, by cases e; simp at h4; subst h4; rfl⟩
      · exact Or.inr ⟨j, by omega, by omega, h4, h5⟩
theorem mem_edges (bl : List XB) (e : XE) : e ∈ U.edges bl ↔ ∃ j : Nat, j < bl.length ∧ e.src = j ∧ e.dst ∈ U.nextAt bl j := by
  unfold U.edges
  rw [mem_edgesFrom]
  constructor
  · rintro ⟨j, _, h3, h4⟩; exact ⟨j, by omega, h4⟩
  · rintro ⟨j, h3, h4⟩; exact ⟨j, by omega, by omega, h4⟩
namespace U
def edgeIs (l : List XE) (a b : Int) (j : Nat) : Bool := (edg l j).src == a && ((edg l j).dst == b && true)
def hasE (l : List XE) (a b : Int) : Bool := anyFrom (edgeIs l a b) l.length 0
end U
theorem hasE_iff (l : List XE) (a b : Int) : U.hasE l a b = true ↔ (⟨a, b⟩ : XE) ∈ l := by
  unfold U.hasE
  rw [anyFrom_iff]
  constructor
  · rintro ⟨j, _, h2, h3⟩
    unfold U.edgeIs at h3
    rw [Bool.and_true, Bool.and_eq_true, beq_iff_eq, beq_iff_eq] at h3
    have : U.edg l j = ⟨a, b⟩ := by
      cases he : U.edg l j with
      | mk s d => rw [he] at h3; simp at h3; rw [h3.1, h3.2]
    rw [← this]
    exact edg_mem (by omega)
  · intro h
    obtain ⟨j, hj, e⟩ := mem_getD h
    refine ⟨j, Nat.zero_le _, by omega, ?_⟩
    have e' : U.edg l j = ⟨a, b⟩ := e
    unfold U.edgeIs
    rw [e']
    simp
section
variable (X : List (List AV)) (u v A B p q : Int) (ks bs bl : List (List AV)) (i : Nat)
def bx4 : List Row := [.box [.sl X], .box [.v (.int .u8 u), .v (.int .u8 v)], .box [.sl ks, .sl bs, goI p, goI q, .sl bl]]
theorem loop4_13 (P E : List (List AV)) (nx : List Int) (hn : nx.length < 1000000) (y z : Bool) : ∀ (d k : Nat) (x : Bool), k + d = nx.length →
    LoopTo Try.prog H (H 4) 0 (loopOf Try.prog 4 13) (mkS 111 [(2, .pt 0 0 0), (3, .pt 1 0 0), (5, goI i), (7, goI A), (8, goI B), (9, .sl (nx.map encI)), (10, .sl P), (11, .sl E), (12, goB x), (13, goB y), (14, goB z), (15, goI k)] (bx4 X u v p q ks bs bl))
      (.exit 2, mkS 111 [(2, .pt 0 0 0), (3, .pt 1 0 0), (5, goI i), (7, goI A), (8, goI B), (10, .sl P), (11, .sl E), (12, goB (x || U.hasFrom nx B d k)), (13, goB y), (14, goB z)] (bx4 X u v p q ks bs bl))
  | 0, k, x, hd => by
    refine turnK (t4_13 X u v A B p q ks bs bl P E i k nx x y z _) ?_
    rw [List.length_map, decide_eq_false (by omega), show U.hasFrom nx B 0 k = false from rfl, Bool.or_false]
    exact rfl
  | d + 1, k, x, hd => by
    have hk : k < nx.length := by omega
    refine turnK (t4_13 X u v A B p q ks bs bl P E i k nx x y z _) ?_
    rw [List.length_map, decide_eq_true (by omega), wrapS hk hn, rowI hk, getI hk, show U.hasFrom nx B (d + 1) k = ((U.nt nx k == B) || U.hasFrom nx B d (k + 1)) from rfl]
    simp only [rdI, List.getD_cons_zero, int_goI]
    cases x with
    | true => exact loop4_13 P E nx hn y z d (k + 1) true (by omega)
    | false =>
      rw [Bool.false_or]
      exact ⟨⟨by omega, by trivial⟩, loop4_13 P E nx hn y z d (k + 1) (U.nt nx k == B) (by omega)⟩
theorem loop4_17 (E : List (List AV)) (nx : List Int) (hn : nx.length < 1000000) (x z : Bool) : ∀ (d k : Nat) (y : Bool), k + d = nx.length →
    LoopTo Try.prog H (H 4) 0 (loopOf Try.prog 4 17) (mkS 111 [(2, .pt 0 0 0), (3, .pt 1 0 0), (5, goI i), (7, goI A), (8, goI B), (10, .sl (nx.map encI)), (11, .sl E), (12, goB x), (13, goB y), (14, goB z), (16, goI k)] (bx4 X u v p q ks bs bl))
      (.exit 4, mkS 111 [(2, .pt 0 0 0), (3, .pt 1 0 0), (5, goI i), (7, goI A), (8, goI B), (11, .sl E), (12, goB x), (13, goB (y || U.hasFrom nx A d k)), (14, goB z)] (bx4 X u v p q ks bs bl))
  | 0, k, y, hd => by
    refine turnK (t4_17 X u v A B p q ks bs bl E i k nx x y z _) ?_
    rw [List.length_map, decide_eq_false (by omega), show U.hasFrom nx A 0 k = false from rfl, Bool.or_false]
    exact rfl
  | d + 1, k, y, hd => by
    have hk : k < nx.length := by omega
    refine turnK (t4_17 X u v A B p q ks bs bl E i k nx x y z _) ?_
    rw [List.length_map, decide_eq_true (by omega), wrapS hk hn, rowI hk, getI hk, show U.hasFrom nx A (d + 1) k = ((U.nt nx k == A) || U.hasFrom nx A d (k + 1)) from rfl]
    simp only [rdI, List.getD_cons_zero, int_goI]
    cases y with
    | true => exact loop4_17 E nx hn x z d (k + 1) true (by omega)
    | false =>
      rw [Bool.false_or]
      exact ⟨⟨by omega, by trivial⟩, loop4_17 E nx hn x z d (k + 1) (U.nt nx k == A) (by omega)⟩
theorem loop4_21 (nx : List XE) (hn : nx.length < 1000000) (x y : Bool) : ∀ (d k : Nat) (z : Bool), k + d = nx.length →
    LoopTo Try.prog H (H 4) 0 (loopOf Try.prog 4 21) (mkS 111 [(2, .pt 0 0 0), (3, .pt 1 0 0), (5, goI i), (7, goI A), (8, goI B), (11, .sl (nx.map encE)), (12, goB x), (13, goB y), (14, goB z), (17, goI k)] (bx4 X u v p q ks bs bl))
      (.exit 6, mkS 111 [(2, .pt 0 0 0), (3, .pt 1 0 0), (5, goI i), (12, goB x), (13, goB y), (14, goB (z || U.anyFrom (U.edgeIs nx A B) d k))] (bx4 X u v p q ks bs bl))
  | 0, k, z, hd => by
    refine turnK (t4_21 X u v A B p q ks bs bl i k nx x y z _) ?_
    rw [List.length_map, decide_eq_false (by omega), show U.anyFrom (U.edgeIs nx A B) 0 k = false from rfl, Bool.or_false]
    exact rfl
  | d + 1, k, z, hd => by
    have hk : k < nx.length := by omega
    refine turnK (t4_21 X u v A B p q ks bs bl i k nx x y z _) ?_
    rw [List.length_map, decide_eq_true (by omega), wrapS hk hn, rowE hk, getE hk, anyFrom_step]
    simp only [encE, rdI, List.getD_cons_zero, List.getD_cons_succ, int_goI]
    cases z with
    | true => exact loop4_21 nx hn x y d (k + 1) true (by omega)
    | false =>
      rw [Bool.false_or]
      exact ⟨⟨by omega, by trivial⟩, loop4_21 nx hn x y d (k + 1) (U.edgeIs nx A B k) (by omega)⟩
end
theorem both_eq (bl : List XB) {A B : Int} (hA : 0 ≤ A ∧ A < bl.length) (hB : 0 ≤ B ∧ B < bl.length) : U.hasI (U.prevAt bl B) A = U.hasI (U.nextAt bl A) B ∧ U.hasE (U.edges bl) A B = U.hasI (U.nextAt bl A) B := by
  constructor
  · rw [Bool.eq_iff_iff, hasI_iff, hasI_iff, mem_prevAt]
    constructor
    · rintro ⟨_, j, _, h2, h3⟩; rw [h2]; exact h3
    · intro h; exact ⟨hB, A.toNat, by omega, by omega, by rw [show ((A.toNat : Nat) : Int) = A by omega]; exact h⟩
  · rw [Bool.eq_iff_iff, hasE_iff, hasI_iff, mem_edges]
    constructor
    · rintro ⟨j, _, h2, h3⟩
      have h2' : A = j := h2
      rw [h2']; exact h3
    · intro h; exact ⟨A.toNat, by omega, show A = _ by omega, by rw [show ((A.toNat : Nat) : Int) = A by omega]; exact h⟩
theorem rem_in {u n : Int} (hu : 0 ≤ u ∧ u ≤ 255) (hn : 0 < n) : IntKind.i64.wrap u = u ∧ 0 ≤ Int.tmod u n ∧ Int.tmod u n < n := by
  refine ⟨by rw [wrap64] <;> omega, Int.tmod_nonneg _ hu.1, Int.tmod_lt_of_pos _ hn⟩
theorem loop4_6 (a : List XF) (u v : Int) (hu : 0 ≤ u ∧ u ≤ 255) (hv : 0 ≤ v ∧ v ≤ 255) (ha : a.length ≤ 3000) (hs : ∀ f ∈ a, SmallF f ∧ 1 ≤ f.blocks.length) : ∀ (d i : Nat), i + d = a.length →
    LoopTo Try.prog H (H 4) 0 (loopOf Try.prog 4 6) (mkS 111 [(2, .pt 0 0 0), (3, .pt 1 0 0), (5, goI i)] [.box [.sl (a.map encF)], .box [.v (.int .u8 u), .v (.int .u8 v)], .dead]) (.exit 0, mkS 111 [] [.dead, .dead, .dead])
  | 0, i, hd => by
    refine turnK (t4_6 a u v i false false false _) ?_
    rw [List.length_map, decide_eq_false (by omega)]
    exact rfl
  | d + 1, i, hd => by
    have hi : i < a.length := by omega
    have ih := loop4_6 a u v hu hv ha hs d (i + 1) (by omega)
    obtain ⟨hf, h1⟩ := hs _ (fun_mem hi)
    have hc := codeOk_of hf
    have hl : (U.fun_ a i).blocks.length ≤ 3000 := hf.2.2.1
    obtain ⟨e1, a1, a2⟩ := rem_in (n := (U.fun_ a i).blocks.length) hu (by omega)
    obtain ⟨e2, b1, b2⟩ := rem_in (n := (U.fun_ a i).blocks.length) hv (by omega)
    refine turnK (t4_6 a u v i (U.hasI (U.nextAt (U.fun_ a i).blocks (Int.tmod u (U.fun_ a i).blocks.length)) (Int.tmod v (U.fun_ a i).blocks.length)) (U.hasI (U.nextAt (U.fun_ a i).blocks (Int.tmod u (U.fun_ a i).blocks.length)) (Int.tmod v (U.fun_ a i).blocks.length)) (U.hasI (U.nextAt (U.fun_ a i).blocks (Int.tmod u (U.fun_ a i).blocks.length)) (Int.tmod v (U.fun_ a i).blocks.length)) _) ?_
    rw [List.length_map, decide_eq_true (show (i : Int) < a.length by omega), wrapS hi (by omega), rowF hi, getF hi, e1, e2]
    simp only [encF, rdI, rdL, slOf, List.getD_cons_zero, List.getD_cons_succ, int_goI, nextR_map, prevR_map, edgesR_map, take_map]
    rw [List.length_map]
    generalize Int.tmod u (U.fun_ a i).blocks.length = A at a1 a2 ⊢
    generalize Int.tmod v (U.fun_ a i).blocks.length = B at b1 b2 ⊢
    obtain ⟨q1, q2⟩ := both_eq (U.fun_ a i).blocks ⟨a1, a2⟩ ⟨b1, b2⟩
    have w15 := wf15 ((U.fun_ a i).kinds.map encI) ((U.fun_ a i).base.map encI) (U.fun_ a i).params (U.fun_ a i).result (U.fun_ a i).blocks A hc
    have w17 := wf17 ((U.fun_ a i).kinds.map encI) ((U.fun_ a i).base.map encI) (U.fun_ a i).params (U.fun_ a i).result (U.fun_ a i).blocks hc hl B
    have w20 := wf20 ((U.fun_ a i).kinds.map encI) ((U.fun_ a i).base.map encI) (U.fun_ a i).params (U.fun_ a i).result (U.fun_ a i).blocks hc hl
    rw [decide_eq_false (show ¬ B < 0 by omega), decide_eq_false (show ¬ B ≥ (U.fun_ a i).blocks.length by omega)] at w17
    have hnl := nextAt_len (U.fun_ a i).blocks A
    have hpl := prev_len (U.fun_ a i).blocks B (U.fun_ a i).blocks.length 0
    have hel := edges_len (U.fun_ a i).blocks (U.fun_ a i).blocks.length 0
    have l13 := loop4_13 (a.map encF) u v A B (U.fun_ a i).params (U.fun_ a i).result ((U.fun_ a i).kinds.map encI) ((U.fun_ a i).base.map encI) ((U.fun_ a i).blocks.map encB) i ((U.prevAt (U.fun_ a i).blocks B).map encI) ((U.edges (U.fun_ a i).blocks).map encE) (U.nextAt (U.fun_ a i).blocks A) (by omega) false false (U.nextAt (U.fun_ a i).blocks A).length 0 false (by omega)
    have l17 := loop4_17 (a.map encF) u v A B (U.fun_ a i).params (U.fun_ a i).result ((U.fun_ a i).kinds.map encI) ((U.fun_ a i).base.map encI) ((U.fun_ a i).blocks.map encB) i ((U.edges (U.fun_ a i).blocks).map encE) (U.prevAt (U.fun_ a i).blocks B) (by unfold U.prevAt; omega) (U.hasI (U.nextAt (U.fun_ a i).blocks A) B) false (U.prevAt (U.fun_ a i).blocks B).length 0 false (by omega)
    have l21 := loop4_21 (a.map encF) u v A B (U.fun_ a i).params (U.fun_ a i).result ((U.fun_ a i).kinds.map encI) ((U.fun_ a i).base.map encI) ((U.fun_ a i).blocks.map encB) i (U.edges (U.fun_ a i).blocks) (by unfold U.edges; omega) (U.hasI (U.nextAt (U.fun_ a i).blocks A) B) (U.hasI (U.nextAt (U.fun_ a i).blocks A) B) (U.edges (U.fun_ a i).blocks).length 0 false (by omega)
    rw [Bool.false_or, show U.hasFrom (U.nextAt (U.fun_ a i).blocks A) B (U.nextAt (U.fun_ a i).blocks A).length 0 = U.hasI (U.nextAt (U.fun_ a i).blocks A) B from rfl] at l13
    rw [Bool.false_or, show U.hasFrom (U.prevAt (U.fun_ a i).blocks B) A (U.prevAt (U.fun_ a i).blocks B).length 0 = U.hasI (U.prevAt (U.fun_ a i).blocks B) A from rfl, q1] at l17
    rw [Bool.false_or, show U.anyFrom (U.edgeIs (U.edges (U.fun_ a i).blocks) A B) (U.edges (U.fun_ a i).blocks).length 0 = U.hasE (U.edges (U.fun_ a i).blocks) A B from rfl, q2] at l21
    refine ⟨⟨by omega, by trivial⟩, by decide, by omega, by decide, by omega, w15, w17, w20, l13, l17, l21, ?_⟩
    cases U.hasI (U.nextAt (U.fun_ a i).blocks A) B with
    | true => exact ih
    | false => exact ih
theorem wf4 (p : XP) (u v : Int) (hu : 0 ≤ u ∧ u ≤ 255) (hv : 0 ≤ v ∧ v ≤ 255) (hp : HandP p) : Wf Try.prog H 4 [.agg (encP p), .agg [.v (.int .u8 u), .v (.int .u8 v)]] [] = some (goB true, [], []) := by
  refine runK (t4 p.funcs u v (U.out p) _) ⟨wf12, wf13 p hp, ?_⟩
  cases ho : U.out p with
  | true => exact rfl
  | false =>
    unfold U.out at ho
    rw [Bool.or_eq_false_iff] at ho
    obtain ⟨h1, h2⟩ := small_of ho.1
    have hok : U.okProg p.funcs = true := by simpa using ho.2
    exact ⟨loop4_6 p.funcs u v hu hv h1 (fun f hf => ⟨h2 f hf, (funcOk_of (okFunc_at hok hf)).blocks.1⟩) p.funcs.length 0 (by omega), rfl⟩
end Go.Proofs.Ytjgnnjoejlijjaa.E
