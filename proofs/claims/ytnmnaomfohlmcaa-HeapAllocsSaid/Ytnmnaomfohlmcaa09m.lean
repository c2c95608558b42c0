/- Functions, by what the evaluator asks; the theorems t.. were printed by show.txt, a program of this session. -/
import Derived.Test.Ytnmnaomfohlmcaa09l
set_option linter.unusedVariables false
set_option linter.unusedSimpArgs false
set_option maxRecDepth 100000
namespace Go.Proofs.Ytnmnaomfohlmcaa.E
open Go
namespace U
def okA (l : List (List AV)) (x y : Int) : Bool := cnt x && cnt y && rightR l
end U
noncomputable def F3 : CallT := fun f args sto => match f, args, sto with
 | 8, _, _ => .is (goB true, [], [])
 | 9, [.agg [.sl l]], _ => .is (goB (U.greatR l), [], [])
 | 10, [.agg [.sl l]], _ => .is (.agg [.os 0 0 l.length], [.arr 2 l], [])
 | 11, [.agg [.sl l], .v (.int _ x), .v (.int _ y)], _ => .by (U.okA l x y) (.is (.tup [.agg [.os 0 0 (U.madeR l x y).length], goI (l.length + 1), goI 0], [.arr 2 (U.madeR l x y)], [])) (.is (.tup [.agg [.sl l], goI 0, goI 1], [], []))
 | 12, [.agg [.sl l], .v (.int _ x), .v (.int _ y)], _ => .by (U.okA l x y) (.is (.tup [.agg [.os 0 0 (U.madeR l x y).length], goI (l.length + 1), goI 0], [.arr 2 (U.madeR l x y)], [])) (.is (.tup [.agg [.sl l], goI 0, goI 1], [], []))
 | 13, [.agg [.sl l], .agg [.sl m]], _ => .is (goB (U.sameR l m), [], [])
 | 14, [.agg [.sl l]], _ => .is (goB (U.rightR l), [], [])
 | 15, [.agg [.sl l]], _ => .is (goB (U.rightR l), [], [])
 | 16, [.sl a, .sl b], _ => .is (goB (U.intsR a b), [], [])
 | 17, [.agg [.sl l], .sl q], _ => .by (U.rightR l) (.is (.os 0 0 (U.reachR l q).length, [.arr 1 (U.reachR l q)], [])) (.is (.sl [], [], []))
 | 18, [.agg [.sl l], .sl q], _ => .by (U.rightR l) (.is (.os 0 0 (U.reachR l q).length, [.arr 1 (U.reachR l q)], [])) (.is (.sl [], [], []))
 | _, _, _ => .no
set_option maxHeartbeats 8000000

theorem t3 (h : List Obj) (a : Int) (b : Int) (l : List Int) (r : AV × List Row × List Nat) : (runT Try.prog H F3 L0 false 3 [hp h, AV.agg [goI a, goI b], AV.sl (List.map encI l)] [] fun q => q = r) = (Wf Try.prog H 8 [] [] = some (goB true, [], []) ∧
  Wf Try.prog H 9 [AV.agg [AV.sl (List.map encO h)]] [] = some (goB (U.greatR (List.map encO h)), [], []) ∧
    TB (U.greatR (List.map encO h)) ((goB true, [], []) = r)
      (TB (decide ((↑(List.length (List.map encI l)) : Int) > 50)) ((goB true, [], []) = r)
        (Wf Try.prog H 10 [AV.agg [AV.sl (List.map encO h)]] [] =
            some (AV.agg [AV.os 0 0 (List.length (List.map encO h))], [Row.arr 2 (List.map encO h)], []) ∧
          (iz 0 ≤ 0 ∧ 0 < (↑2 : Int)) ∧
            (iz 0 ≤ 1 ∧ 1 < (↑2 : Int)) ∧
              TB (U.okA (List.take (List.length (List.map encO h)) (List.drop 0 (List.map encO h))) a b)
                (Wf Try.prog H 11
                      [AV.agg [AV.sl (List.take (List.length (List.map encO h)) (List.drop 0 (List.map encO h)))],
                        goI a, goI b]
                      [] =
                    some
                      (AV.tup
                          [AV.agg
                              [AV.os 0 0
                                  (List.length
                                    (U.madeR (List.take (List.length (List.map encO h)) (List.drop 0 (List.map encO h)))
                                      a b))],
                            goI
                              ((↑(List.length
                                      (List.take (List.length (List.map encO h)) (List.drop 0 (List.map encO h)))) :
                                  Int) +
                                1),
                            goI 0],
                        [Row.arr 2
                            (U.madeR (List.take (List.length (List.map encO h)) (List.drop 0 (List.map encO h))) a b)],
                        []) ∧
                  (iz 0 ≤ 0 ∧ 0 < (↑2 : Int)) ∧
                    (iz 0 ≤ 1 ∧ 1 < (↑2 : Int)) ∧
                      TB (U.okA (List.map encO h) a b)
                        (Wf Try.prog H 12 [AV.agg [AV.sl (List.map encO h)], goI a, goI b] [] =
                            some
                              (AV.tup
                                  [AV.agg [AV.os 0 0 (List.length (U.madeR (List.map encO h) a b))],
                                    goI ((↑(List.length (List.map encO h)) : Int) + 1), goI 0],
                                [Row.arr 2 (U.madeR (List.map encO h) a b)], []) ∧
                          Wf Try.prog H 13
                                [AV.agg
                                    [AV.sl
                                        (List.take
                                          (List.length
                                            (U.madeR
                                              (List.take (List.length (List.map encO h))
                                                (List.drop 0 (List.map encO h)))
                                              a b))
                                          (List.drop 0
                                            (U.madeR
                                              (List.take (List.length (List.map encO h))
                                                (List.drop 0 (List.map encO h)))
                                              a b)))],
                                  AV.agg
                                    [AV.sl
                                        (List.take (List.length (U.madeR (List.map encO h) a b))
                                          (List.drop 0 (U.madeR (List.map encO h) a b)))]]
                                [] =
                              some
                                (goB
                                    (U.sameR
                                      (List.take
                                        (List.length
                                          (U.madeR
                                            (List.take (List.length (List.map encO h)) (List.drop 0 (List.map encO h)))
                                            a b))
                                        (List.drop 0
                                          (U.madeR
                                            (List.take (List.length (List.map encO h)) (List.drop 0 (List.map encO h)))
                                            a b)))
                                      (List.take (List.length (U.madeR (List.map encO h) a b))
                                        (List.drop 0 (U.madeR (List.map encO h) a b)))),
                                  [], []) ∧
                            TB
                              (U.sameR
                                (List.take
                                  (List.length
                                    (U.madeR (List.take (List.length (List.map encO h)) (List.drop 0 (List.map encO h)))
                                      a b))
                                  (List.drop 0
                                    (U.madeR (List.take (List.length (List.map encO h)) (List.drop 0 (List.map encO h)))
                                      a b)))
                                (List.take (List.length (U.madeR (List.map encO h) a b))
                                  (List.drop 0 (U.madeR (List.map encO h) a b))))
                              (TB
                                ((↑(List.length
                                          (List.take (List.length (List.map encO h)) (List.drop 0 (List.map encO h)))) :
                                      Int) +
                                    1 ==
                                  (↑(List.length (List.map encO h)) : Int) + 1)
                                (Wf Try.prog H 14
                                      [AV.agg
                                          [AV.sl
                                              (List.take (List.length (List.map encO h))
                                                (List.drop 0 (List.map encO h)))]]
                                      [] =
                                    some
                                      (goB
                                          (U.rightR
                                            (List.take (List.length (List.map encO h))
                                              (List.drop 0 (List.map encO h)))),
                                        [], []) ∧
                                  Wf Try.prog H 15 [AV.agg [AV.sl (List.map encO h)]] [] =
                                      some (goB (U.rightR (List.map encO h)), [], []) ∧
                                    TB
                                      (U.rightR
                                          (List.take (List.length (List.map encO h)) (List.drop 0 (List.map encO h))) ==
                                        U.rightR (List.map encO h))
                                      (TB
                                        (U.rightR
                                          (List.take (List.length (List.map encO h)) (List.drop 0 (List.map encO h))))
                                        (Wf Try.prog H 17
                                              [AV.agg
                                                  [AV.sl
                                                      (List.take (List.length (List.map encO h))
                                                        (List.drop 0 (List.map encO h)))],
                                                AV.sl (List.map encI l)]
                                              [] =
                                            some
                                              (AV.os 0 0
                                                  (List.length
                                                    (U.reachR
                                                      (List.take (List.length (List.map encO h))
                                                        (List.drop 0 (List.map encO h)))
                                                      (List.map encI l))),
                                                [Row.arr 1
                                                    (U.reachR
                                                      (List.take (List.length (List.map encO h))
                                                        (List.drop 0 (List.map encO h)))
                                                      (List.map encI l))],
                                                []) ∧
                                          TB (U.rightR (List.map encO h))
                                            (Wf Try.prog H 18
                                                  [AV.agg [AV.sl (List.map encO h)], AV.sl (List.map encI l)] [] =
                                                some
                                                  (AV.os 0 0
                                                      (List.length (U.reachR (List.map encO h) (List.map encI l))),
                                                    [Row.arr 1 (U.reachR (List.map encO h) (List.map encI l))], []) ∧
                                              Wf Try.prog H 16
                                                    [AV.sl
                                                        (List.take
                                                          (List.length
                                                            (U.reachR
                                                              (List.take (List.length (List.map encO h))
                                                                (List.drop 0 (List.map encO h)))
                                                              (List.map encI l)))
                                                          (List.drop 0
                                                            (U.reachR
                                                              (List.take (List.length (List.map encO h))
                                                                (List.drop 0 (List.map encO h)))
                                                              (List.map encI l)))),
                                                      AV.sl
                                                        (List.take
                                                          (List.length (U.reachR (List.map encO h) (List.map encI l)))
                                                          (List.drop 0 (U.reachR (List.map encO h) (List.map encI l))))]
                                                    [] =
                                                  some
                                                    (goB
                                                        (U.intsR
                                                          (List.take
                                                            (List.length
                                                              (U.reachR
                                                                (List.take (List.length (List.map encO h))
                                                                  (List.drop 0 (List.map encO h)))
                                                                (List.map encI l)))
                                                            (List.drop 0
                                                              (U.reachR
                                                                (List.take (List.length (List.map encO h))
                                                                  (List.drop 0 (List.map encO h)))
                                                                (List.map encI l))))
                                                          (List.take
                                                            (List.length (U.reachR (List.map encO h) (List.map encI l)))
                                                            (List.drop 0
                                                              (U.reachR (List.map encO h) (List.map encI l))))),
                                                      [], []) ∧
                                                TB
                                                  (U.intsR
                                                    (List.take
                                                      (List.length
                                                        (U.reachR
                                                          (List.take (List.length (List.map encO h))
                                                            (List.drop 0 (List.map encO h)))
                                                          (List.map encI l)))
                                                      (List.drop 0
                                                        (U.reachR
                                                          (List.take (List.length (List.map encO h))
                                                            (List.drop 0 (List.map encO h)))
                                                          (List.map encI l))))
                                                    (List.take
                                                      (List.length (U.reachR (List.map encO h) (List.map encI l)))
                                                      (List.drop 0 (U.reachR (List.map encO h) (List.map encI l)))))
                                                  (Wf Try.prog H 13
                                                        [AV.agg
                                                            [AV.sl
                                                                (List.take (List.length (List.map encO h))
                                                                  (List.drop 0 (List.map encO h)))],
                                                          AV.agg [AV.sl (List.map encO h)]]
                                                        [] =
                                                      some
                                                        (goB
                                                            (U.sameR
                                                              (List.take (List.length (List.map encO h))
                                                                (List.drop 0 (List.map encO h)))
                                                              (List.map encO h)),
                                                          [], []) ∧
                                                    (goB
                                                          (U.sameR
                                                            (List.take (List.length (List.map encO h))
                                                              (List.drop 0 (List.map encO h)))
                                                            (List.map encO h)),
                                                        [], []) =
                                                      r)
                                                  ((goB false, [], []) = r))
                                            (Wf Try.prog H 18
                                                  [AV.agg [AV.sl (List.map encO h)], AV.sl (List.map encI l)] [] =
                                                some (AV.sl [], [], []) ∧
                                              Wf Try.prog H 16
                                                    [AV.sl
                                                        (List.take
                                                          (List.length
                                                            (U.reachR
                                                              (List.take (List.length (List.map encO h))
                                                                (List.drop 0 (List.map encO h)))
                                                              (List.map encI l)))
                                                          (List.drop 0
                                                            (U.reachR
                                                              (List.take (List.length (List.map encO h))
                                                                (List.drop 0 (List.map encO h)))
                                                              (List.map encI l)))),
                                                      AV.sl []]
                                                    [] =
                                                  some
                                                    (goB
                                                        (U.intsR
                                                          (List.take
                                                            (List.length
                                                              (U.reachR
                                                                (List.take (List.length (List.map encO h))
                                                                  (List.drop 0 (List.map encO h)))
                                                                (List.map encI l)))
                                                            (List.drop 0
                                                              (U.reachR
                                                                (List.take (List.length (List.map encO h))
                                                                  (List.drop 0 (List.map encO h)))
                                                                (List.map encI l))))
                                                          []),
                                                      [], []) ∧
                                                TB
                                                  (U.intsR
                                                    (List.take
                                                      (List.length
                                                        (U.reachR
                                                          (List.take (List.length (List.map encO h))
                                                            (List.drop 0 (List.map encO h)))
                                                          (List.map encI l)))
                                                      (List.drop 0
                                                        (U.reachR
                                                          (List.take (List.length (List.map encO h))
                                                            (List.drop 0 (List.map encO h)))
                                                          (List.map encI l))))
                                                    [])
                                                  (Wf Try.prog H 13
                                                        [AV.agg
                                                            [AV.sl
                                                                (List.take (List.length (List.map encO h))
                                                                  (List.drop 0 (List.map encO h)))],
                                                          AV.agg [AV.sl (List.map encO h)]]
                                                        [] =
                                                      some
                                                        (goB
                                                            (U.sameR
                                                              (List.take (List.length (List.map encO h))
                                                                (List.drop 0 (List.map encO h)))
                                                              (List.map encO h)),
                                                          [], []) ∧
                                                    (goB
                                                          (U.sameR
                                                            (List.take (List.length (List.map encO h))
                                                              (List.drop 0 (List.map encO h)))
                                                            (List.map encO h)),
                                                        [], []) =
                                                      r)
                                                  ((goB false, [], []) = r)))
                                        (Wf Try.prog H 17
                                              [AV.agg
                                                  [AV.sl
                                                      (List.take (List.length (List.map encO h))
                                                        (List.drop 0 (List.map encO h)))],
                                                AV.sl (List.map encI l)]
                                              [] =
                                            some (AV.sl [], [], []) ∧
                                          TB (U.rightR (List.map encO h))
                                            (Wf Try.prog H 18
                                                  [AV.agg [AV.sl (List.map encO h)], AV.sl (List.map encI l)] [] =
                                                some
                                                  (AV.os 0 0
                                                      (List.length (U.reachR (List.map encO h) (List.map encI l))),
                                                    [Row.arr 1 (U.reachR (List.map encO h) (List.map encI l))], []) ∧
                                              Wf Try.prog H 16
                                                    [AV.sl [],
                                                      AV.sl
                                                        (List.take
                                                          (List.length (U.reachR (List.map encO h) (List.map encI l)))
                                                          (List.drop 0 (U.reachR (List.map encO h) (List.map encI l))))]
                                                    [] =
                                                  some
                                                    (goB
                                                        (U.intsR []
                                                          (List.take
                                                            (List.length (U.reachR (List.map encO h) (List.map encI l)))
                                                            (List.drop 0
                                                              (U.reachR (List.map encO h) (List.map encI l))))),
                                                      [], []) ∧
                                                TB
                                                  (U.intsR []
                                                    (List.take
                                                      (List.length (U.reachR (List.map encO h) (List.map encI l)))
                                                      (List.drop 0 (U.reachR (List.map encO h) (List.map encI l)))))
                                                  (Wf Try.prog H 13
                                                        [AV.agg
                                                            [AV.sl
                                                                (List.take (List.length (List.map encO h))
                                                                  (List.drop 0 (List.map encO h)))],
                                                          AV.agg [AV.sl (List.map encO h)]]
                                                        [] =
                                                      some
                                                        (goB
                                                            (U.sameR
                                                              (List.take (List.length (List.map encO h))
                                                                (List.drop 0 (List.map encO h)))
                                                              (List.map encO h)),
                                                          [], []) ∧
                                                    (goB
                                                          (U.sameR
                                                            (List.take (List.length (List.map encO h))
                                                              (List.drop 0 (List.map encO h)))
                                                            (List.map encO h)),
                                                        [], []) =
                                                      r)
                                                  ((goB false, [], []) = r))
                                            (Wf Try.prog H 18
                                                  [AV.agg [AV.sl (List.map encO h)], AV.sl (List.map encI l)] [] =
                                                some (AV.sl [], [], []) ∧
                                              Wf Try.prog H 16 [AV.sl [], AV.sl []] [] = some (goB true, [], []) ∧
                                                Wf Try.prog H 13
                                                      [AV.agg
                                                          [AV.sl
                                                              (List.take (List.length (List.map encO h))
                                                                (List.drop 0 (List.map encO h)))],
                                                        AV.agg [AV.sl (List.map encO h)]]
                                                      [] =
                                                    some
                                                      (goB
                                                          (U.sameR
                                                            (List.take (List.length (List.map encO h))
                                                              (List.drop 0 (List.map encO h)))
                                                            (List.map encO h)),
                                                        [], []) ∧
                                                  (goB
                                                        (U.sameR
                                                          (List.take (List.length (List.map encO h))
                                                            (List.drop 0 (List.map encO h)))
                                                          (List.map encO h)),
                                                      [], []) =
                                                    r)))
                                      ((goB false, [], []) = r))
                                ((goB false, [], []) = r))
                              ((goB false, [], []) = r))
                        (Wf Try.prog H 12 [AV.agg [AV.sl (List.map encO h)], goI a, goI b] [] =
                            some (AV.tup [AV.agg [AV.sl (List.map encO h)], goI 0, goI 1], [], []) ∧
                          Wf Try.prog H 13
                                [AV.agg
                                    [AV.sl
                                        (List.take
                                          (List.length
                                            (U.madeR
                                              (List.take (List.length (List.map encO h))
                                                (List.drop 0 (List.map encO h)))
                                              a b))
                                          (List.drop 0
                                            (U.madeR
                                              (List.take (List.length (List.map encO h))
                                                (List.drop 0 (List.map encO h)))
                                              a b)))],
                                  AV.agg [AV.sl (List.map encO h)]]
                                [] =
                              some
                                (goB
                                    (U.sameR
                                      (List.take
                                        (List.length
                                          (U.madeR
                                            (List.take (List.length (List.map encO h)) (List.drop 0 (List.map encO h)))
                                            a b))
                                        (List.drop 0
                                          (U.madeR
                                            (List.take (List.length (List.map encO h)) (List.drop 0 (List.map encO h)))
                                            a b)))
                                      (List.map encO h)),
                                  [], []) ∧
                            TB
                              (U.sameR
                                (List.take
                                  (List.length
                                    (U.madeR (List.take (List.length (List.map encO h)) (List.drop 0 (List.map encO h)))
                                      a b))
                                  (List.drop 0
                                    (U.madeR (List.take (List.length (List.map encO h)) (List.drop 0 (List.map encO h)))
                                      a b)))
                                (List.map encO h))
                              ((goB false, [], []) = r) ((goB false, [], []) = r)))
                (Wf Try.prog H 11
                      [AV.agg [AV.sl (List.take (List.length (List.map encO h)) (List.drop 0 (List.map encO h)))],
                        goI a, goI b]
                      [] =
                    some
                      (AV.tup
                          [AV.agg [AV.sl (List.take (List.length (List.map encO h)) (List.drop 0 (List.map encO h)))],
                            goI 0, goI 1],
                        [], []) ∧
                  (iz 0 ≤ 0 ∧ 0 < (↑2 : Int)) ∧
                    (iz 0 ≤ 1 ∧ 1 < (↑2 : Int)) ∧
                      TB (U.okA (List.map encO h) a b)
                        (Wf Try.prog H 12 [AV.agg [AV.sl (List.map encO h)], goI a, goI b] [] =
                            some
                              (AV.tup
                                  [AV.agg [AV.os 0 0 (List.length (U.madeR (List.map encO h) a b))],
                                    goI ((↑(List.length (List.map encO h)) : Int) + 1), goI 0],
                                [Row.arr 2 (U.madeR (List.map encO h) a b)], []) ∧
                          Wf Try.prog H 13
                                [AV.agg
                                    [AV.sl (List.take (List.length (List.map encO h)) (List.drop 0 (List.map encO h)))],
                                  AV.agg
                                    [AV.sl
                                        (List.take (List.length (U.madeR (List.map encO h) a b))
                                          (List.drop 0 (U.madeR (List.map encO h) a b)))]]
                                [] =
                              some
                                (goB
                                    (U.sameR (List.take (List.length (List.map encO h)) (List.drop 0 (List.map encO h)))
                                      (List.take (List.length (U.madeR (List.map encO h) a b))
                                        (List.drop 0 (U.madeR (List.map encO h) a b)))),
                                  [], []) ∧
                            TB
                              (U.sameR (List.take (List.length (List.map encO h)) (List.drop 0 (List.map encO h)))
                                (List.take (List.length (U.madeR (List.map encO h) a b))
                                  (List.drop 0 (U.madeR (List.map encO h) a b))))
                              ((goB false, [], []) = r) ((goB false, [], []) = r))
                        (Wf Try.prog H 12 [AV.agg [AV.sl (List.map encO h)], goI a, goI b] [] =
                            some (AV.tup [AV.agg [AV.sl (List.map encO h)], goI 0, goI 1], [], []) ∧
                          Wf Try.prog H 13
                                [AV.agg
                                    [AV.sl (List.take (List.length (List.map encO h)) (List.drop 0 (List.map encO h)))],
                                  AV.agg [AV.sl (List.map encO h)]]
                                [] =
                              some
                                (goB
                                    (U.sameR (List.take (List.length (List.map encO h)) (List.drop 0 (List.map encO h)))
                                      (List.map encO h)),
                                  [], []) ∧
                            TB
                              (U.sameR (List.take (List.length (List.map encO h)) (List.drop 0 (List.map encO h)))
                                (List.map encO h))
                              (Wf Try.prog H 14
                                    [AV.agg
                                        [AV.sl
                                            (List.take (List.length (List.map encO h))
                                              (List.drop 0 (List.map encO h)))]]
                                    [] =
                                  some
                                    (goB
                                        (U.rightR
                                          (List.take (List.length (List.map encO h)) (List.drop 0 (List.map encO h)))),
                                      [], []) ∧
                                Wf Try.prog H 15 [AV.agg [AV.sl (List.map encO h)]] [] =
                                    some (goB (U.rightR (List.map encO h)), [], []) ∧
                                  TB
                                    (U.rightR
                                        (List.take (List.length (List.map encO h)) (List.drop 0 (List.map encO h))) ==
                                      U.rightR (List.map encO h))
                                    (TB
                                      (U.rightR
                                        (List.take (List.length (List.map encO h)) (List.drop 0 (List.map encO h))))
                                      (Wf Try.prog H 17
                                            [AV.agg
                                                [AV.sl
                                                    (List.take (List.length (List.map encO h))
                                                      (List.drop 0 (List.map encO h)))],
                                              AV.sl (List.map encI l)]
                                            [] =
                                          some
                                            (AV.os 0 0
                                                (List.length
                                                  (U.reachR
                                                    (List.take (List.length (List.map encO h))
                                                      (List.drop 0 (List.map encO h)))
                                                    (List.map encI l))),
                                              [Row.arr 1
                                                  (U.reachR
                                                    (List.take (List.length (List.map encO h))
                                                      (List.drop 0 (List.map encO h)))
                                                    (List.map encI l))],
                                              []) ∧
                                        TB (U.rightR (List.map encO h))
                                          (Wf Try.prog H 18 [AV.agg [AV.sl (List.map encO h)], AV.sl (List.map encI l)]
                                                [] =
                                              some
                                                (AV.os 0 0 (List.length (U.reachR (List.map encO h) (List.map encI l))),
                                                  [Row.arr 1 (U.reachR (List.map encO h) (List.map encI l))], []) ∧
                                            Wf Try.prog H 16
                                                  [AV.sl
                                                      (List.take
                                                        (List.length
                                                          (U.reachR
                                                            (List.take (List.length (List.map encO h))
                                                              (List.drop 0 (List.map encO h)))
                                                            (List.map encI l)))
                                                        (List.drop 0
                                                          (U.reachR
                                                            (List.take (List.length (List.map encO h))
                                                              (List.drop 0 (List.map encO h)))
                                                            (List.map encI l)))),
                                                    AV.sl
                                                      (List.take
                                                        (List.length (U.reachR (List.map encO h) (List.map encI l)))
                                                        (List.drop 0 (U.reachR (List.map encO h) (List.map encI l))))]
                                                  [] =
                                                some
                                                  (goB
                                                      (U.intsR
                                                        (List.take
                                                          (List.length
                                                            (U.reachR
                                                              (List.take (List.length (List.map encO h))
                                                                (List.drop 0 (List.map encO h)))
                                                              (List.map encI l)))
                                                          (List.drop 0
                                                            (U.reachR
                                                              (List.take (List.length (List.map encO h))
                                                                (List.drop 0 (List.map encO h)))
                                                              (List.map encI l))))
                                                        (List.take
                                                          (List.length (U.reachR (List.map encO h) (List.map encI l)))
                                                          (List.drop 0
                                                            (U.reachR (List.map encO h) (List.map encI l))))),
                                                    [], []) ∧
                                              TB
                                                (U.intsR
                                                  (List.take
                                                    (List.length
                                                      (U.reachR
                                                        (List.take (List.length (List.map encO h))
                                                          (List.drop 0 (List.map encO h)))
                                                        (List.map encI l)))
                                                    (List.drop 0
                                                      (U.reachR
                                                        (List.take (List.length (List.map encO h))
                                                          (List.drop 0 (List.map encO h)))
                                                        (List.map encI l))))
                                                  (List.take
                                                    (List.length (U.reachR (List.map encO h) (List.map encI l)))
                                                    (List.drop 0 (U.reachR (List.map encO h) (List.map encI l)))))
                                                (Wf Try.prog H 13
                                                      [AV.agg
                                                          [AV.sl
                                                              (List.take (List.length (List.map encO h))
                                                                (List.drop 0 (List.map encO h)))],
                                                        AV.agg [AV.sl (List.map encO h)]]
                                                      [] =
                                                    some
                                                      (goB
                                                          (U.sameR
                                                            (List.take (List.length (List.map encO h))
                                                              (List.drop 0 (List.map encO h)))
                                                            (List.map encO h)),
                                                        [], []) ∧
                                                  (goB
                                                        (U.sameR
                                                          (List.take (List.length (List.map encO h))
                                                            (List.drop 0 (List.map encO h)))
                                                          (List.map encO h)),
                                                      [], []) =
                                                    r)
                                                ((goB false, [], []) = r))
                                          (Wf Try.prog H 18 [AV.agg [AV.sl (List.map encO h)], AV.sl (List.map encI l)]
                                                [] =
                                              some (AV.sl [], [], []) ∧
                                            Wf Try.prog H 16
                                                  [AV.sl
                                                      (List.take
                                                        (List.length
                                                          (U.reachR
                                                            (List.take (List.length (List.map encO h))
                                                              (List.drop 0 (List.map encO h)))
                                                            (List.map encI l)))
                                                        (List.drop 0
                                                          (U.reachR
                                                            (List.take (List.length (List.map encO h))
                                                              (List.drop 0 (List.map encO h)))
                                                            (List.map encI l)))),
                                                    AV.sl []]
                                                  [] =
                                                some
                                                  (goB
                                                      (U.intsR
                                                        (List.take
                                                          (List.length
                                                            (U.reachR
                                                              (List.take (List.length (List.map encO h))
                                                                (List.drop 0 (List.map encO h)))
                                                              (List.map encI l)))
                                                          (List.drop 0
                                                            (U.reachR
                                                              (List.take (List.length (List.map encO h))
                                                                (List.drop 0 (List.map encO h)))
                                                              (List.map encI l))))
                                                        []),
                                                    [], []) ∧
                                              TB
                                                (U.intsR
                                                  (List.take
                                                    (List.length
                                                      (U.reachR
                                                        (List.take (List.length (List.map encO h))
                                                          (List.drop 0 (List.map encO h)))
                                                        (List.map encI l)))
                                                    (List.drop 0
                                                      (U.reachR
                                                        (List.take (List.length (List.map encO h))
                                                          (List.drop 0 (List.map encO h)))
                                                        (List.map encI l))))
                                                  [])
                                                (Wf Try.prog H 13
                                                      [AV.agg
                                                          [AV.sl
                                                              (List.take (List.length (List.map encO h))
                                                                (List.drop 0 (List.map encO h)))],
                                                        AV.agg [AV.sl (List.map encO h)]]
                                                      [] =
                                                    some
                                                      (goB
                                                          (U.sameR
                                                            (List.take (List.length (List.map encO h))
                                                              (List.drop 0 (List.map encO h)))
                                                            (List.map encO h)),
                                                        [], []) ∧
                                                  (goB
                                                        (U.sameR
                                                          (List.take (List.length (List.map encO h))
                                                            (List.drop 0 (List.map encO h)))
                                                          (List.map encO h)),
                                                      [], []) =
                                                    r)
                                                ((goB false, [], []) = r)))
                                      (Wf Try.prog H 17
                                            [AV.agg
                                                [AV.sl
                                                    (List.take (List.length (List.map encO h))
                                                      (List.drop 0 (List.map encO h)))],
                                              AV.sl (List.map encI l)]
                                            [] =
                                          some (AV.sl [], [], []) ∧
                                        TB (U.rightR (List.map encO h))
                                          (Wf Try.prog H 18 [AV.agg [AV.sl (List.map encO h)], AV.sl (List.map encI l)]
                                                [] =
                                              some
                                                (AV.os 0 0 (List.length (U.reachR (List.map encO h) (List.map encI l))),
                                                  [Row.arr 1 (U.reachR (List.map encO h) (List.map encI l))], []) ∧
                                            Wf Try.prog H 16
                                                  [AV.sl [],
                                                    AV.sl
                                                      (List.take
                                                        (List.length (U.reachR (List.map encO h) (List.map encI l)))
                                                        (List.drop 0 (U.reachR (List.map encO h) (List.map encI l))))]
                                                  [] =
                                                some
                                                  (goB
                                                      (U.intsR []
                                                        (List.take
                                                          (List.length (U.reachR (List.map encO h) (List.map encI l)))
                                                          (List.drop 0
                                                            (U.reachR (List.map encO h) (List.map encI l))))),
                                                    [], []) ∧
                                              TB
                                                (U.intsR []
                                                  (List.take
                                                    (List.length (U.reachR (List.map encO h) (List.map encI l)))
                                                    (List.drop 0 (U.reachR (List.map encO h) (List.map encI l)))))
                                                (Wf Try.prog H 13
                                                      [AV.agg
                                                          [AV.sl
                                                              (List.take (List.length (List.map encO h))
                                                                (List.drop 0 (List.map encO h)))],
                                                        AV.agg [AV.sl (List.map encO h)]]
                                                      [] =
                                                    some
                                                      (goB
                                                          (U.sameR
                                                            (List.take (List.length (List.map encO h))
                                                              (List.drop 0 (List.map encO h)))
                                                            (List.map encO h)),
                                                        [], []) ∧
                                                  (goB
                                                        (U.sameR
                                                          (List.take (List.length (List.map encO h))
                                                            (List.drop 0 (List.map encO h)))
                                                          (List.map encO h)),
                                                      [], []) =
                                                    r)
                                                ((goB false, [], []) = r))
                                          (Wf Try.prog H 18 [AV.agg [AV.sl (List.map encO h)], AV.sl (List.map encI l)]
                                                [] =
                                              some (AV.sl [], [], []) ∧
                                            Wf Try.prog H 16 [AV.sl [], AV.sl []] [] = some (goB true, [], []) ∧
                                              Wf Try.prog H 13
                                                    [AV.agg
                                                        [AV.sl
                                                            (List.take (List.length (List.map encO h))
                                                              (List.drop 0 (List.map encO h)))],
                                                      AV.agg [AV.sl (List.map encO h)]]
                                                    [] =
                                                  some
                                                    (goB
                                                        (U.sameR
                                                          (List.take (List.length (List.map encO h))
                                                            (List.drop 0 (List.map encO h)))
                                                          (List.map encO h)),
                                                      [], []) ∧
                                                (goB
                                                      (U.sameR
                                                        (List.take (List.length (List.map encO h))
                                                          (List.drop 0 (List.map encO h)))
                                                        (List.map encO h)),
                                                    [], []) =
                                                  r)))
                                    ((goB false, [], []) = r))
                              ((goB false, [], []) = r)))))) := by kernel_rfl
def Small (hs : List Obj) : Prop := ∀ o ∈ hs, o.refs.length ≤ 1125899906842624 ∧ o.ints.length ≤ 1125899906842624
theorem great_small : ∀ (hs : List Obj) (n : Int), 0 ≤ n → Small hs → U.great hs n ≤ 300 → n ≤ 300 ∧ ∀ o ∈ hs, o.refs.length ≤ 300 ∧ o.ints.length ≤ 300
  | [], n, _, _, h => ⟨h, fun o ho => (by cases ho)⟩
  | o :: l, n, h0, hs, h => by
    unfold U.great at h
    by_cases hn : n ≤ 300
    · rw [if_pos hn] at h
      have ho := hs o (by simp)
      have e : U.parts n o = n + o.refs.length + o.ints.length := by
        unfold U.parts
        have e1 : IntKind.i64.wrap (n + o.refs.length) = n + o.refs.length := by rw [wrap64] <;> omega
        rw [e1, wrap64] <;> omega
      rw [e] at h
      obtain ⟨h1, h2⟩ := great_small l (n + o.refs.length + o.ints.length) (by omega) (fun x hx => hs x (List.mem_cons_of_mem _ hx)) h
      refine ⟨hn, fun x hx => ?_⟩
      rcases List.mem_cons.1 hx with rfl | hx
      · omega
      · exact h2 x hx
    · rw [if_neg hn] at h; exact absurd h hn
set_option maxHeartbeats 4000000 in
theorem wf3 (h : List Obj) (a b : Int) (l : List Int) (hh : Handed h) (hsm : Small h) : Wf Try.prog H 3 [hp h, .agg [goI a, goI b], .sl (l.map encI)] [] = some (goB true, [], []) := by
  have eg : U.greatR (h.map encO) = decide (U.great h h.length > 300) := by unfold U.greatR; rw [decO_map, List.length_map]
  have et : U.rightR (h.map encO) = U.right h := by unfold U.rightR; rw [decO_map]
  have etk : List.take (h.map encO).length (List.drop 0 (h.map encO)) = h.map encO := take_all _
  have el1 : (h.map encO).length = h.length := List.length_map _
  have el2 : (l.map encI).length = l.length := List.length_map _
  have em : ∀ x : List Obj, U.sameR (x.map encO) (x.map encO) = true := fun x => by unfold U.sameR; rw [decO_map]; exact same_self x
  have t := t3 h a b l (goB true, [], [])
  rw [etk, eg, et, em] at t
  have h9 := wf9 h hh
  by_cases hgr : U.great h h.length > 300
  · refine runK t ⟨wf8, h9, ?_⟩
    rw [decide_eq_true hgr]; exact rfl
  have hgr' : U.great h h.length ≤ 300 := by omega
  by_cases hl : (l.length : Int) > 50
  · refine runK t ⟨wf8, h9, ?_⟩
    rw [decide_eq_false hgr, el2, decide_eq_true hl]; exact rfl
  have hs := short_of hh hgr'
  have hl3 := great_len hgr'
  have h8 := (great_small h h.length (by omega) hsm hgr').2
  have h10 := wf10 h hs.1 (fun o ho => by have := h8 o ho; omega)
  have h13 := wf13 h h hs
  rw [same_self] at h13
  have h14 := wf14 h hs.1
  have h15 := wf15 h hs.1
  have ei : ∀ x : List Int, U.intsR (x.map encI) (x.map encI) = true := fun x => (intsR_iff x x).2 rfl
  have c1 := reachR_map h l
  have eo : U.okA (h.map encO) a b = (U.cnt a && U.cnt b && U.right h) := by unfold U.okA; rw [et]
  have reach : U.right h = true → Wf Try.prog H 17 [hp h, .sl (l.map encI)] [] = some (.os 0 0 ((U.reach h l).map encI).length, [.arr 1 ((U.reach h l).map encI)], []) ∧ Wf Try.prog H 18 [hp h, .sl (l.map encI)] [] = some (.os 0 0 ((U.reach h l).map encI).length, [.arr 1 ((U.reach h l).map encI)], []) ∧ Wf Try.prog H 16 [.sl ((U.reach h l).map encI), .sl ((U.reach h l).map encI)] [] = some (goB true, [], []) := fun hr => by
    obtain ⟨⟨o3, b3, _⟩, l3, k3⟩ := wf17r hr (by omega) l (by omega)
    have k4 := wf18 hr (by omega) l (by omega)
    have h16 := wf16 (U.reach h l) (U.reach h l) (by omega)
    rw [ei] at h16
    rw [List.length_map]
    exact ⟨k3, k4, h16⟩
  have noreach : U.right h = false → Wf Try.prog H 17 [hp h, .sl (l.map encI)] [] = some (.sl [], [], []) ∧ Wf Try.prog H 18 [hp h, .sl (l.map encI)] [] = some (.sl [], [], []) ∧ Wf Try.prog H 16 [.sl [], .sl []] [] = some (goB true, [], []) := fun hr => by
    have h16 := wf16 [] [] (by simp)
    rw [ei] at h16
    exact ⟨wf17_no hr hs.1 l [], wf18_no hr hs.1 l, h16⟩
  have e0 : U.intsR [] [] = true := ei []
  by_cases hok : (U.cnt a && U.cnt b && U.right h) = true
  · obtain ⟨hok1, hr⟩ := Bool.and_eq_true_iff.1 hok
    obtain ⟨ha, hb⟩ := Bool.and_eq_true_iff.1 hok1
    have h11 := wf11 h a b hs.1 hr ha hb
    have h12 := wf12 h a b (by omega) hr ha hb
    have hmr : U.right (U.made h a b) = true := made_right hr ha hb
    have hml := made_len h a b
    have h13b := wf13 (U.made h a b) (U.made h a b) ⟨by omega, fun o ho => by have := refs8 hmr ho; omega⟩
    rw [same_self] at h13b
    have em2 := em (U.made h a b)
    obtain ⟨k1, k2, k3⟩ := reach hr
    have etm : List.take ((U.made h a b).map encO).length (List.drop 0 ((U.made h a b).map encO)) = (U.made h a b).map encO := take_all _
    have eti : List.take ((U.reach h l).map encI).length (List.drop 0 ((U.reach h l).map encI)) = (U.reach h l).map encI := take_all _
    rw [hr] at h14 h15
    rw [madeR_map] at h11 h12 t
    rw [eo, hok, hr, etm, em2, c1, eti, ei, beq_self_eq_true, beq_self_eq_true] at t
    refine runK t ⟨wf8, h9, ?_⟩
    rw [decide_eq_false hgr, el2, decide_eq_false hl]
    exact ⟨by rw [el1]; exact h10, ⟨by decide, by decide⟩, ⟨by decide, by decide⟩, h11, ⟨by decide, by decide⟩, ⟨by decide, by decide⟩, h12, h13b, h14, h15, k1, k2, k3, h13, rfl⟩
  · have hno : ¬ (U.cnt a = true ∧ U.cnt b = true ∧ U.right h = true) := fun q => hok (by rw [q.1, q.2.1, q.2.2]; rfl)
    have h11 := wf11_no h a b hs.1 hno
    have h12 := wf12_no h a b hs.1 hno
    have hokf : (U.cnt a && U.cnt b && U.right h) = false := by
      cases hq : (U.cnt a && U.cnt b && U.right h) with
      | false => rfl
      | true => exact absurd hq hok
    have eti : List.take ((U.reach h l).map encI).length (List.drop 0 ((U.reach h l).map encI)) = (U.reach h l).map encI := take_all _
    rw [eo, hokf, c1, eti, ei, beq_self_eq_true] at t
    refine runK t ⟨wf8, h9, ?_⟩
    rw [decide_eq_false hgr, el2, decide_eq_false hl]
    cases hr : U.right h with
    | true =>
      obtain ⟨k1, k2, k3⟩ := reach hr
      rw [hr] at h14 h15
      exact ⟨by rw [el1]; exact h10, ⟨by decide, by decide⟩, ⟨by decide, by decide⟩, h11, ⟨by decide, by decide⟩, ⟨by decide, by decide⟩, h12, h13, h14, h15, k1, k2, k3, h13, rfl⟩
    | false =>
      obtain ⟨k1, k2, k3⟩ := noreach hr
      rw [hr] at h14 h15
      exact ⟨by rw [el1]; exact h10, ⟨by decide, by decide⟩, ⟨by decide, by decide⟩, h11, ⟨by decide, by decide⟩, ⟨by decide, by decide⟩, h12, h13, h14, h15, k1, k2, k3, h13, rfl⟩
end Go.Proofs.Ytnmnaomfohlmcaa.E
