/- Functions, by what the evaluator asks; the theorems t.. were printed by show.txt, a program of this session. -/
import Derived.Test.Ytjgnnjoejlijjaa05m
import Derived.Test.Ytjgnnjoejlijjaa13c
set_option linter.unusedVariables false
set_option linter.unusedSimpArgs false
set_option maxRecDepth 100000
namespace Go.Proofs.Ytjgnnjoejlijjaa.E
open Go
namespace U
def leftR (bl : List (List AV)) : List Int := (left (nextAt (bl.map decB)) bl.length).reverse
def reachL (bl : List (List AV)) : List Int := isort (leftR bl)
noncomputable def onR (bl : List (List AV)) : List Int := onL (withinB (nextAt (bl.map decB)) bl.length 0 (-1)) bl.length 0
noncomputable def withR (bl : List (List AV)) (fr : Int) : List Bool := withinB (nextAt (bl.map decB)) bl.length fr (-1)
end U
noncomputable def FW (o : Bool) : CallT := fun f args sto => match f, args with
 | 12, _ => .is (goB true, [], [])
 | 13, _ => .is (goB o, [], [])
 | 38, [.agg [_, _, _, _, .sl bl]] => .is (.sl ((U.reachL bl).map encI), [], [])
 | 39, [.agg [_, _, _, _, .sl bl]] => .is (.os 0 0 (U.onR bl).length, [.arr 1 ((U.onR bl).map encI)], [])
 | 40, [.agg [_, _, _, _, .sl bl]] => .is (.os 0 0 (U.leftR bl).length, [.arr 1 ((U.leftR bl).map encI)], [])
 | 41, [.agg [_, _, _, _, .sl bl]] => .is (.os 0 0 (U.leftR bl).length, [.arr 1 ((U.leftR bl).map encI)], [])
 | 42, [.agg [_, _, _, _, .sl bl], .v (.int _ n), _] => .is (.os 0 0 (U.withR bl n).length, [.arr 1 ((U.withR bl n).map encBo)], [])
 | 15, [.agg [_, _, _, _, .sl bl], .v (.int _ n)] => .is (.sl (U.nextR bl n), [], [])
 | 17, [.agg [_, _, _, _, .sl bl], .v (.int _ n)] => .by (decide (n < 0) || decide (n ≥ bl.length)) (.is (.sl [], [], [])) (.is (.os 0 0 (U.prevR bl n).length, [.arr 1 ((U.prevR bl n).map encI)], []))
 | 20, [.agg [_, _, _, _, .sl bl]] => .is (.os 0 0 (U.edgesR bl).length, [.arr 2 ((U.edgesR bl).map encE)], [])
 | 14, _ => .is (goB true, [], [])
 | _, _ => .no
set_option maxHeartbeats 4000000
def L11 (i : Nat) (m : List Bool) : Nat → St → LT := fun id st => match id, st.2 with
 | 12, [x, y, _] => .is (.exit 2) (mkS 133 [(1, .pt 0 0 0), (3, goI i), (4, .pt 1 0 0), (5, .os 2 0 m.length)] [x, y, .arr 1 (m.map encBo)])
 | 18, [x, y, _] => .is (.exit 4) (mkS 133 [(1, .pt 0 0 0), (3, goI i), (5, .os 2 0 m.length)] [x, y, .arr 1 (m.map encBo)])
 | _, _ => .no
def L1118 (i b : Nat) (m : List Bool) (fr : Bool) : Nat → St → LT := fun id st => match id, st.2 with
 | 22, [x, y, _] => .is (.exit 6) (mkS 133 [(1, .pt 0 0 0), (3, goI i), (4, .pt 1 0 0), (5, .os 2 0 m.length), (8, goI b), (10, st.1.getD 10 .dead)] [x, y, .arr 1 (m.map encBo)])
 | 28, [x, y, _] => .is (.exit 8) (mkS 133 [(1, .pt 0 0 0), (3, goI i), (4, .pt 1 0 0), (5, .os 2 0 m.length), (8, goI b), (12, goB fr)] [x, y, .arr 1 (m.map encBo)])
 | _, _ => .no
def L10 (i : Nat) (pl : List Int) (rd bk : Bool) : Nat → St → LT := fun id st => match id, st.2 with
 | 14, [x, y, _, _] => .is (.exit 2) (mkS 140 [(1, .pt 0 0 0), (3, goI i), (4, .pt 1 0 0), (7, .os 2 0 pl.length)] [x, y, .arr 1 (pl.map encI), .dead])
 | 23, [x, y, _, _] => .is (.exit 4) (mkS 140 [(1, .pt 0 0 0), (3, goI i), (9, goB rd), (10, goB bk)] [x, y, .dead, .dead])
 | _, _ => .no

theorem t9 (a : List XF) (o : Bool) (r : AV × List Row × List Nat) : (runT Try.prog H (FW o) (fun id st => LT.is (Ex.exit 0) (mkS 35 [] [Row.dead, Row.dead])) false 9
  [AV.agg [AV.sl (List.map encF a)]] [] fun q => q = r) = (Wf Try.prog H 12 [] [] = some (goB true, [], []) ∧
  Wf Try.prog H 13 [AV.agg [AV.sl (List.map encF a)]] [] = some (goB o, [], []) ∧
    TB o ((goB true, [], []) = r)
      (LoopTo Try.prog H (H 9) 0 (loopOf Try.prog 9 6)
          (mkS 35 [(1, AV.pt 0 0 0), (3, goI 0)] [Row.box [AV.sl (List.map encF a)], Row.dead])
          (Ex.exit 0, mkS 35 [] [Row.dead, Row.dead]) ∧
        (goB true, [], []) = r)) := by kernel_rfl
theorem t9_6 (a : List XF) (i : Nat) (r : Ex × St) : (turnT Try.prog H (FW false) L0 false (H 9) 0 (loopOf Try.prog 9 6)
  (mkS 35 [(1, AV.pt 0 0 0), (3, goI (↑i : Int))] [Row.box [AV.sl (List.map encF a)], Row.dead]) r) = (TB (decide ((↑i : Int) < (↑(List.length (List.map encF a)) : Int)))
  ((0 ≤ (↑i : Int) ∧
      (List.map encF a)[i]? =
        some
          [AV.sl (rdL (rowAt (List.map encF a) i) 0), AV.sl (rdL (rowAt (List.map encF a) i) 1),
            goI (rdI (rowAt (List.map encF a) i) 2), goI (rdI (rowAt (List.map encF a) i) 3),
            AV.sl (rdL (rowAt (List.map encF a) i) 4)]) ∧
    Wf Try.prog H 38
          [AV.agg
              [AV.sl (rdL (rowAt (List.map encF a) i) 0), AV.sl (rdL (rowAt (List.map encF a) i) 1),
                goI (rdI (rowAt (List.map encF a) i) 2), goI (rdI (rowAt (List.map encF a) i) 3),
                AV.sl (rdL (rowAt (List.map encF a) i) 4)]]
          [] =
        some (AV.sl (List.map encI (U.reachL (rdL (rowAt (List.map encF a) i) 4))), [], []) ∧
      Wf Try.prog H 39
            [AV.agg
                [AV.sl (rdL (rowAt (List.map encF a) i) 0), AV.sl (rdL (rowAt (List.map encF a) i) 1),
                  goI (rdI (rowAt (List.map encF a) i) 2), goI (rdI (rowAt (List.map encF a) i) 3),
                  AV.sl (rdL (rowAt (List.map encF a) i) 4)]]
            [] =
          some
            (AV.os 0 0 (List.length (U.onR (rdL (rowAt (List.map encF a) i) 4))),
              [Row.arr 1 (List.map encI (U.onR (rdL (rowAt (List.map encF a) i) 4)))], []) ∧
        Wf Try.prog H 14
              [AV.sl (List.map encI (U.reachL (rdL (rowAt (List.map encF a) i) 4))),
                AV.sl
                  (List.take (List.length (U.onR (rdL (rowAt (List.map encF a) i) 4)))
                    (List.drop 0 (List.map encI (U.onR (rdL (rowAt (List.map encF a) i) 4)))))]
              [] =
            some (goB true, [], []) ∧
          Wf Try.prog H 40
                [AV.agg
                    [AV.sl (rdL (rowAt (List.map encF a) i) 0), AV.sl (rdL (rowAt (List.map encF a) i) 1),
                      goI (rdI (rowAt (List.map encF a) i) 2), goI (rdI (rowAt (List.map encF a) i) 3),
                      AV.sl (rdL (rowAt (List.map encF a) i) 4)]]
                [] =
              some
                (AV.os 0 0 (List.length (U.leftR (rdL (rowAt (List.map encF a) i) 4))),
                  [Row.arr 1 (List.map encI (U.leftR (rdL (rowAt (List.map encF a) i) 4)))], []) ∧
            Wf Try.prog H 41
                  [AV.agg
                      [AV.sl (rdL (rowAt (List.map encF a) i) 0), AV.sl (rdL (rowAt (List.map encF a) i) 1),
                        goI (rdI (rowAt (List.map encF a) i) 2), goI (rdI (rowAt (List.map encF a) i) 3),
                        AV.sl (rdL (rowAt (List.map encF a) i) 4)]]
                  [] =
                some
                  (AV.os 0 0 (List.length (U.leftR (rdL (rowAt (List.map encF a) i) 4))),
                    [Row.arr 1 (List.map encI (U.leftR (rdL (rowAt (List.map encF a) i) 4)))], []) ∧
              Wf Try.prog H 14
                    [AV.sl
                        (List.take (List.length (U.leftR (rdL (rowAt (List.map encF a) i) 4)))
                          (List.drop 0 (List.map encI (U.leftR (rdL (rowAt (List.map encF a) i) 4))))),
                      AV.sl
                        (List.take (List.length (U.leftR (rdL (rowAt (List.map encF a) i) 4)))
                          (List.drop 0 (List.map encI (U.leftR (rdL (rowAt (List.map encF a) i) 4)))))]
                    [] =
                  some (goB true, [], []) ∧
                LoopTo Try.prog H (H 9) 0 (loopOf Try.prog 9 6)
                  (mkS 35 [(1, AV.pt 0 0 0), (3, goI (IntKind.wrap IntKind.i64 ((↑i : Int) + 1)))]
                    [Row.box [AV.sl (List.map encF a)], Row.dead])
                  r)
  ((Ex.exit 0, mkS 35 [] [Row.dead, Row.dead]) = r)) := by kernel_rfl
theorem t11 (a : List XF) (o : Bool) (r : AV × List Row × List Nat) : (runT Try.prog H (FW o) (fun id st => LT.is (Ex.exit 0) (mkS 133 [] [Row.dead, Row.dead, Row.dead])) false 11
  [AV.agg [AV.sl (List.map encF a)]] [] fun q => q = r) = (Wf Try.prog H 12 [] [] = some (goB true, [], []) ∧
  Wf Try.prog H 13 [AV.agg [AV.sl (List.map encF a)]] [] = some (goB o, [], []) ∧
    TB o ((goB true, [], []) = r)
      (LoopTo Try.prog H (H 11) 0 (loopOf Try.prog 11 6)
          (mkS 133 [(1, AV.pt 0 0 0), (3, goI 0)] [Row.box [AV.sl (List.map encF a)], Row.dead, Row.dead])
          (Ex.exit 0, mkS 133 [] [Row.dead, Row.dead, Row.dead]) ∧
        (goB true, [], []) = r)) := by kernel_rfl
theorem t11_6 (a : List XF) (i : Nat) (m : List Bool) (r : Ex × St) : (turnT Try.prog H (FW false) (L11 i m) false (H 11) 0 (loopOf Try.prog 11 6)
  (mkS 133 [(1, AV.pt 0 0 0), (3, goI (↑i : Int))] [Row.box [AV.sl (List.map encF a)], Row.dead, Row.dead]) r) = (TB (decide ((↑i : Int) < (↑(List.length (List.map encF a)) : Int)))
  ((0 ≤ (↑i : Int) ∧
      (List.map encF a)[i]? =
        some
          [AV.sl (rdL (rowAt (List.map encF a) i) 0), AV.sl (rdL (rowAt (List.map encF a) i) 1),
            goI (rdI (rowAt (List.map encF a) i) 2), goI (rdI (rowAt (List.map encF a) i) 3),
            AV.sl (rdL (rowAt (List.map encF a) i) 4)]) ∧
    (0 ≤ (↑(List.length (rdL (rowAt (List.map encF a) i) 4)) : Int) ∧
        (↑(List.length (rdL (rowAt (List.map encF a) i) 4)) : Int) ≤
            (↑(List.length (rdL (rowAt (List.map encF a) i) 4)) : Int) ∧
          (↑(List.length (rdL (rowAt (List.map encF a) i) 4)) : Int) ≤ (↑1000000 : Int)) ∧
      Wf Try.prog H 38
            [AV.agg
                [AV.sl (rdL (rowAt (List.map encF a) i) 0), AV.sl (rdL (rowAt (List.map encF a) i) 1),
                  goI (rdI (rowAt (List.map encF a) i) 2), goI (rdI (rowAt (List.map encF a) i) 3),
                  AV.sl (rdL (rowAt (List.map encF a) i) 4)]]
            [] =
          some (AV.sl (List.map encI (U.reachL (rdL (rowAt (List.map encF a) i) 4))), [], []) ∧
        LoopTo Try.prog H (H 11) 0 (loopOf Try.prog 11 12)
            (mkS 133
              [(1, AV.pt 0 0 0), (3, goI (↑i : Int)), (4, AV.pt 1 0 0),
                (5,
                  AV.os 2 0
                    (List.length (List.replicate (List.length (rdL (rowAt (List.map encF a) i) 4)) [goB false]))),
                (6, AV.sl (List.map encI (U.reachL (rdL (rowAt (List.map encF a) i) 4)))), (7, goI 0)]
              [Row.box [AV.sl (List.map encF a)],
                Row.box
                  [AV.sl (rdL (rowAt (List.map encF a) i) 0), AV.sl (rdL (rowAt (List.map encF a) i) 1),
                    goI (rdI (rowAt (List.map encF a) i) 2), goI (rdI (rowAt (List.map encF a) i) 3),
                    AV.sl (rdL (rowAt (List.map encF a) i) 4)],
                Row.arr 1 (List.replicate (List.length (rdL (rowAt (List.map encF a) i) 4)) [goB false])])
            (Ex.exit 2,
              mkS 133 [(1, AV.pt 0 0 0), (3, goI (↑i : Int)), (4, AV.pt 1 0 0), (5, AV.os 2 0 (List.length m))]
                [Row.box [AV.sl (List.map encF a)],
                  Row.box
                    [AV.sl (rdL (rowAt (List.map encF a) i) 0), AV.sl (rdL (rowAt (List.map encF a) i) 1),
                      goI (rdI (rowAt (List.map encF a) i) 2), goI (rdI (rowAt (List.map encF a) i) 3),
                      AV.sl (rdL (rowAt (List.map encF a) i) 4)],
                  Row.arr 1 (List.map encBo m)]) ∧
          LoopTo Try.prog H (H 11) 0 (loopOf Try.prog 11 18)
              (mkS 133
                [(1, AV.pt 0 0 0), (3, goI (↑i : Int)), (4, AV.pt 1 0 0), (5, AV.os 2 0 (List.length m)), (8, goI 0)]
                [Row.box [AV.sl (List.map encF a)],
                  Row.box
                    [AV.sl (rdL (rowAt (List.map encF a) i) 0), AV.sl (rdL (rowAt (List.map encF a) i) 1),
                      goI (rdI (rowAt (List.map encF a) i) 2), goI (rdI (rowAt (List.map encF a) i) 3),
                      AV.sl (rdL (rowAt (List.map encF a) i) 4)],
                  Row.arr 1 (List.map encBo m)])
              (Ex.exit 4,
                mkS 133 [(1, AV.pt 0 0 0), (3, goI (↑i : Int)), (5, AV.os 2 0 (List.length m))]
                  [Row.box [AV.sl (List.map encF a)],
                    Row.box
                      [AV.sl (rdL (rowAt (List.map encF a) i) 0), AV.sl (rdL (rowAt (List.map encF a) i) 1),
                        goI (rdI (rowAt (List.map encF a) i) 2), goI (rdI (rowAt (List.map encF a) i) 3),
                        AV.sl (rdL (rowAt (List.map encF a) i) 4)],
                    Row.arr 1 (List.map encBo m)]) ∧
            (iz 0 ≤ 0 ∧ 0 < (↑(List.length m) : Int) ∧ 0 < List.length (List.map encBo m)) ∧
              cutAt 1 0 (List.map encBo m)[0]? = some [goB (rdB (rowAt (List.map encBo m) 0) 0)] ∧
                TB (!rdB (rowAt (List.map encBo m) 0) 0)
                  ((Ex.ret, mkS 133 [(2, goB false)] [Row.dead, Row.dead, Row.dead]) = r)
                  (LoopTo Try.prog H (H 11) 0 (loopOf Try.prog 11 6)
                    (mkS 133 [(1, AV.pt 0 0 0), (3, goI (IntKind.wrap IntKind.i64 ((↑i : Int) + 1)))]
                      [Row.box [AV.sl (List.map encF a)], Row.dead, Row.dead])
                    r))
  ((Ex.exit 0, mkS 133 [] [Row.dead, Row.dead, Row.dead]) = r)) := by kernel_rfl
theorem t11_12 (X : List (List AV)) (Y : List AV) (i : Nat) (k : Nat) (l : List Int) (m : List Bool) (r : Ex × St) : (turnT Try.prog H (FW false) L0 false (H 11) 0 (loopOf Try.prog 11 12)
  (mkS 133
    [(1, AV.pt 0 0 0), (3, goI (↑i : Int)), (4, AV.pt 1 0 0), (5, AV.os 2 0 (List.length m)),
      (6, AV.sl (List.map encI l)), (7, goI (↑k : Int))]
    [Row.box [AV.sl X], Row.box Y, Row.arr 1 (List.map encBo m)])
  r) = (TB (decide ((↑k : Int) < (↑(List.length (List.map encI l)) : Int)))
  ((0 ≤ (↑k : Int) ∧ (List.map encI l)[k]? = some [goI (rdI (rowAt (List.map encI l) k) 0)]) ∧
    TB (decide (rdI (rowAt (List.map encI l) k) 0 < 0))
      ((Ex.ret, mkS 133 [(2, goB false)] [Row.dead, Row.dead, Row.dead]) = r)
      ((0 ≤ (↑k : Int) ∧ (List.map encI l)[k]? = some [goI (rdI (rowAt (List.map encI l) k) 0)]) ∧
        TB (decide (rdI (rowAt (List.map encI l) k) 0 ≥ (↑(List.length m) : Int)))
          ((Ex.ret, mkS 133 [(2, goB false)] [Row.dead, Row.dead, Row.dead]) = r)
          ((0 ≤ (↑k : Int) ∧ (List.map encI l)[k]? = some [goI (rdI (rowAt (List.map encI l) k) 0)]) ∧
            (0 ≤ rdI (rowAt (List.map encI l) k) 0 ∧
                rdI (rowAt (List.map encI l) k) 0 < (↑(List.length m) : Int) ∧
                  0 + Int.toNat (rdI (rowAt (List.map encI l) k) 0) < List.length (List.map encBo m)) ∧
              cutAt 1 0 (List.map encBo m)[0 + Int.toNat (rdI (rowAt (List.map encI l) k) 0)]? =
                  some [goB (rdB (rowAt (List.map encBo m) (0 + Int.toNat (rdI (rowAt (List.map encI l) k) 0))) 0)] ∧
                TB (rdB (rowAt (List.map encBo m) (0 + Int.toNat (rdI (rowAt (List.map encI l) k) 0))) 0)
                  ((Ex.ret, mkS 133 [(2, goB false)] [Row.dead, Row.dead, Row.dead]) = r)
                  ((0 ≤ (↑k : Int) ∧ (List.map encI l)[k]? = some [goI (rdI (rowAt (List.map encI l) k) 0)]) ∧
                    (0 ≤ rdI (rowAt (List.map encI l) k) 0 ∧
                        rdI (rowAt (List.map encI l) k) 0 < (↑(List.length m) : Int) ∧
                          0 + Int.toNat (rdI (rowAt (List.map encI l) k) 0) < List.length (List.map encBo m)) ∧
                      Option.map List.length (List.map encBo m)[0 + Int.toNat (rdI (rowAt (List.map encI l) k) 0)]? =
                          some 1 ∧
                        LoopTo Try.prog H (H 11) 0 (loopOf Try.prog 11 12)
                          (mkS 133
                            [(1, AV.pt 0 0 0), (3, goI (↑i : Int)), (4, AV.pt 1 0 0), (5, AV.os 2 0 (List.length m)),
                              (6, AV.sl (List.map encI l)), (7, goI (IntKind.wrap IntKind.i64 ((↑k : Int) + 1)))]
                            [Row.box [AV.sl X], Row.box Y,
                              Row.arr 1
                                (List.set (List.map encBo m) (0 + Int.toNat (rdI (rowAt (List.map encI l) k) 0))
                                  [goB true])])
                          r))))
  ((Ex.exit 2,
      mkS 133 [(1, AV.pt 0 0 0), (3, goI (↑i : Int)), (4, AV.pt 1 0 0), (5, AV.os 2 0 (List.length m))]
        [Row.box [AV.sl X], Row.box Y, Row.arr 1 (List.map encBo m)]) =
    r)) := by kernel_rfl
theorem t11_18 (X : List (List AV)) (ks : List (List AV)) (bs : List (List AV)) (p : Int) (q : Int) (bl : List XB) (i : Nat) (b : Nat) (m : List Bool) (fr : Bool) (r : Ex × St) : (turnT Try.prog H (FW false) (L1118 i b m fr) false (H 11) 0 (loopOf Try.prog 11 18)
  (mkS 133
    [(1, AV.pt 0 0 0), (3, goI (↑i : Int)), (4, AV.pt 1 0 0), (5, AV.os 2 0 (List.length m)), (8, goI (↑b : Int))]
    [Row.box [AV.sl X], Row.box [AV.sl ks, AV.sl bs, goI p, goI q, AV.sl (List.map encB bl)],
      Row.arr 1 (List.map encBo m)])
  r) = (TB (decide ((↑b : Int) < (↑(List.length m) : Int)))
  (Wf Try.prog H 15 [AV.agg [AV.sl ks, AV.sl bs, goI p, goI q, AV.sl (List.map encB bl)], goI (↑b : Int)] [] =
      some (AV.sl (U.nextR (List.map encB bl) (↑b : Int)), [], []) ∧
    TB (false || decide ((↑b : Int) ≥ (↑(List.length (List.map encB bl)) : Int)))
      (Wf Try.prog H 17 [AV.agg [AV.sl ks, AV.sl bs, goI p, goI q, AV.sl (List.map encB bl)], goI (↑b : Int)] [] =
          some (AV.sl [], [], []) ∧
        LoopTo Try.prog H (H 11) 0 (loopOf Try.prog 11 22)
            (mkS 133
              [(1, AV.pt 0 0 0), (3, goI (↑i : Int)), (4, AV.pt 1 0 0), (5, AV.os 2 0 (List.length m)),
                (8, goI (↑b : Int)), (9, AV.sl (U.nextR (List.map encB bl) (↑b : Int))), (10, AV.sl []), (11, goI 0)]
              [Row.box [AV.sl X], Row.box [AV.sl ks, AV.sl bs, goI p, goI q, AV.sl (List.map encB bl)],
                Row.arr 1 (List.map encBo m)])
            (Ex.exit 6,
              mkS 133
                [(1, AV.pt 0 0 0), (3, goI (↑i : Int)), (4, AV.pt 1 0 0), (5, AV.os 2 0 (List.length m)),
                  (8, goI (↑b : Int)), (10, AV.sl [])]
                [Row.box [AV.sl X], Row.box [AV.sl ks, AV.sl bs, goI p, goI q, AV.sl (List.map encB bl)],
                  Row.arr 1 (List.map encBo m)]) ∧
          LoopTo Try.prog H (H 11) 0 (loopOf Try.prog 11 28)
              (mkS 133
                [(1, AV.pt 0 0 0), (3, goI (↑i : Int)), (4, AV.pt 1 0 0), (5, AV.os 2 0 (List.length m)),
                  (8, goI (↑b : Int)), (10, AV.sl []), (12, goB ((↑b : Int) == 0)), (13, goI 0)]
                [Row.box [AV.sl X], Row.box [AV.sl ks, AV.sl bs, goI p, goI q, AV.sl (List.map encB bl)],
                  Row.arr 1 (List.map encBo m)])
              (Ex.exit 8,
                mkS 133
                  [(1, AV.pt 0 0 0), (3, goI (↑i : Int)), (4, AV.pt 1 0 0), (5, AV.os 2 0 (List.length m)),
                    (8, goI (↑b : Int)), (12, goB fr)]
                  [Row.box [AV.sl X], Row.box [AV.sl ks, AV.sl bs, goI p, goI q, AV.sl (List.map encB bl)],
                    Row.arr 1 (List.map encBo m)]) ∧
            (0 ≤ (↑b : Int) ∧ (↑b : Int) < (↑(List.length m) : Int) ∧ 0 + b < List.length (List.map encBo m)) ∧
              cutAt 1 0 (List.map encBo m)[0 + b]? = some [goB (rdB (rowAt (List.map encBo m) (0 + b)) 0)] ∧
                TB (rdB (rowAt (List.map encBo m) (0 + b)) 0)
                  (TB (!fr) ((Ex.ret, mkS 133 [(2, goB false)] [Row.dead, Row.dead, Row.dead]) = r)
                    (LoopTo Try.prog H (H 11) 0 (loopOf Try.prog 11 18)
                      (mkS 133
                        [(1, AV.pt 0 0 0), (3, goI (↑i : Int)), (4, AV.pt 1 0 0), (5, AV.os 2 0 (List.length m)),
                          (8, goI (IntKind.wrap IntKind.i64 ((↑b : Int) + 1)))]
                        [Row.box [AV.sl X], Row.box [AV.sl ks, AV.sl bs, goI p, goI q, AV.sl (List.map encB bl)],
                          Row.arr 1 (List.map encBo m)])
                      r))
                  (LoopTo Try.prog H (H 11) 0 (loopOf Try.prog 11 18)
                    (mkS 133
                      [(1, AV.pt 0 0 0), (3, goI (↑i : Int)), (4, AV.pt 1 0 0), (5, AV.os 2 0 (List.length m)),
                        (8, goI (IntKind.wrap IntKind.i64 ((↑b : Int) + 1)))]
                      [Row.box [AV.sl X], Row.box [AV.sl ks, AV.sl bs, goI p, goI q, AV.sl (List.map encB bl)],
                        Row.arr 1 (List.map encBo m)])
                    r))
      (Wf Try.prog H 17 [AV.agg [AV.sl ks, AV.sl bs, goI p, goI q, AV.sl (List.map encB bl)], goI (↑b : Int)] [] =
          some
            (AV.os 0 0 (List.length (U.prevR (List.map encB bl) (↑b : Int))),
              [Row.arr 1 (List.map encI (U.prevR (List.map encB bl) (↑b : Int)))], []) ∧
        LoopTo Try.prog H (H 11) 0 (loopOf Try.prog 11 22)
            (mkS 133
              [(1, AV.pt 0 0 0), (3, goI (↑i : Int)), (4, AV.pt 1 0 0), (5, AV.os 2 0 (List.length m)),
                (8, goI (↑b : Int)), (9, AV.sl (U.nextR (List.map encB bl) (↑b : Int))),
                (10,
                  AV.sl
                    (List.take (List.length (U.prevR (List.map encB bl) (↑b : Int)))
                      (List.drop 0 (List.map encI (U.prevR (List.map encB bl) (↑b : Int)))))),
                (11, goI 0)]
              [Row.box [AV.sl X], Row.box [AV.sl ks, AV.sl bs, goI p, goI q, AV.sl (List.map encB bl)],
                Row.arr 1 (List.map encBo m)])
            (Ex.exit 6,
              mkS 133
                [(1, AV.pt 0 0 0), (3, goI (↑i : Int)), (4, AV.pt 1 0 0), (5, AV.os 2 0 (List.length m)),
                  (8, goI (↑b : Int)),
                  (10,
                    AV.sl
                      (List.take (List.length (U.prevR (List.map encB bl) (↑b : Int)))
                        (List.drop 0 (List.map encI (U.prevR (List.map encB bl) (↑b : Int))))))]
                [Row.box [AV.sl X], Row.box [AV.sl ks, AV.sl bs, goI p, goI q, AV.sl (List.map encB bl)],
                  Row.arr 1 (List.map encBo m)]) ∧
          LoopTo Try.prog H (H 11) 0 (loopOf Try.prog 11 28)
              (mkS 133
                [(1, AV.pt 0 0 0), (3, goI (↑i : Int)), (4, AV.pt 1 0 0), (5, AV.os 2 0 (List.length m)),
                  (8, goI (↑b : Int)),
                  (10,
                    AV.sl
                      (List.take (List.length (U.prevR (List.map encB bl) (↑b : Int)))
                        (List.drop 0 (List.map encI (U.prevR (List.map encB bl) (↑b : Int)))))),
                  (12, goB ((↑b : Int) == 0)), (13, goI 0)]
                [Row.box [AV.sl X], Row.box [AV.sl ks, AV.sl bs, goI p, goI q, AV.sl (List.map encB bl)],
                  Row.arr 1 (List.map encBo m)])
              (Ex.exit 8,
                mkS 133
                  [(1, AV.pt 0 0 0), (3, goI (↑i : Int)), (4, AV.pt 1 0 0), (5, AV.os 2 0 (List.length m)),
                    (8, goI (↑b : Int)), (12, goB fr)]
                  [Row.box [AV.sl X], Row.box [AV.sl ks, AV.sl bs, goI p, goI q, AV.sl (List.map encB bl)],
                    Row.arr 1 (List.map encBo m)]) ∧
            (0 ≤ (↑b : Int) ∧ (↑b : Int) < (↑(List.length m) : Int) ∧ 0 + b < List.length (List.map encBo m)) ∧
              cutAt 1 0 (List.map encBo m)[0 + b]? = some [goB (rdB (rowAt (List.map encBo m) (0 + b)) 0)] ∧
                TB (rdB (rowAt (List.map encBo m) (0 + b)) 0)
                  (TB (!fr) ((Ex.ret, mkS 133 [(2, goB false)] [Row.dead, Row.dead, Row.dead]) = r)
                    (LoopTo Try.prog H (H 11) 0 (loopOf Try.prog 11 18)
                      (mkS 133
                        [(1, AV.pt 0 0 0), (3, goI (↑i : Int)), (4, AV.pt 1 0 0), (5, AV.os 2 0 (List.length m)),
                          (8, goI (IntKind.wrap IntKind.i64 ((↑b : Int) + 1)))]
                        [Row.box [AV.sl X], Row.box [AV.sl ks, AV.sl bs, goI p, goI q, AV.sl (List.map encB bl)],
                          Row.arr 1 (List.map encBo m)])
                      r))
                  (LoopTo Try.prog H (H 11) 0 (loopOf Try.prog 11 18)
                    (mkS 133
                      [(1, AV.pt 0 0 0), (3, goI (↑i : Int)), (4, AV.pt 1 0 0), (5, AV.os 2 0 (List.length m)),
                        (8, goI (IntKind.wrap IntKind.i64 ((↑b : Int) + 1)))]
                      [Row.box [AV.sl X], Row.box [AV.sl ks, AV.sl bs, goI p, goI q, AV.sl (List.map encB bl)],
                        Row.arr 1 (List.map encBo m)])
                    r)))
  ((Ex.exit 4,
      mkS 133 [(1, AV.pt 0 0 0), (3, goI (↑i : Int)), (5, AV.os 2 0 (List.length m))]
        [Row.box [AV.sl X], Row.box [AV.sl ks, AV.sl bs, goI p, goI q, AV.sl (List.map encB bl)],
          Row.arr 1 (List.map encBo m)]) =
    r)) := by kernel_rfl
theorem t11_22 (X : List (List AV)) (Y : List AV) (P : List (List AV)) (i : Nat) (b : Nat) (k : Nat) (t : List Int) (m : List Bool) (r : Ex × St) : (turnT Try.prog H (FW false) L0 false (H 11) 0 (loopOf Try.prog 11 22)
  (mkS 133
    [(1, AV.pt 0 0 0), (3, goI (↑i : Int)), (4, AV.pt 1 0 0), (5, AV.os 2 0 (List.length m)), (8, goI (↑b : Int)),
      (9, AV.sl (List.map encI t)), (10, AV.sl P), (11, goI (↑k : Int))]
    [Row.box [AV.sl X], Row.box Y, Row.arr 1 (List.map encBo m)])
  r) = (TB (decide ((↑k : Int) < (↑(List.length (List.map encI t)) : Int)))
  ((0 ≤ (↑b : Int) ∧ (↑b : Int) < (↑(List.length m) : Int) ∧ 0 + b < List.length (List.map encBo m)) ∧
    cutAt 1 0 (List.map encBo m)[0 + b]? = some [goB (rdB (rowAt (List.map encBo m) (0 + b)) 0)] ∧
      TB (rdB (rowAt (List.map encBo m) (0 + b)) 0)
        ((0 ≤ (↑k : Int) ∧ (List.map encI t)[k]? = some [goI (rdI (rowAt (List.map encI t) k) 0)]) ∧
          (0 ≤ rdI (rowAt (List.map encI t) k) 0 ∧
              rdI (rowAt (List.map encI t) k) 0 < (↑(List.length m) : Int) ∧
                0 + Int.toNat (rdI (rowAt (List.map encI t) k) 0) < List.length (List.map encBo m)) ∧
            cutAt 1 0 (List.map encBo m)[0 + Int.toNat (rdI (rowAt (List.map encI t) k) 0)]? =
                some [goB (rdB (rowAt (List.map encBo m) (0 + Int.toNat (rdI (rowAt (List.map encI t) k) 0))) 0)] ∧
              TB (!rdB (rowAt (List.map encBo m) (0 + Int.toNat (rdI (rowAt (List.map encI t) k) 0))) 0)
                ((Ex.ret, mkS 133 [(2, goB false)] [Row.dead, Row.dead, Row.dead]) = r)
                (LoopTo Try.prog H (H 11) 0 (loopOf Try.prog 11 22)
                  (mkS 133
                    [(1, AV.pt 0 0 0), (3, goI (↑i : Int)), (4, AV.pt 1 0 0), (5, AV.os 2 0 (List.length m)),
                      (8, goI (↑b : Int)), (9, AV.sl (List.map encI t)), (10, AV.sl P),
                      (11, goI (IntKind.wrap IntKind.i64 ((↑k : Int) + 1)))]
                    [Row.box [AV.sl X], Row.box Y, Row.arr 1 (List.map encBo m)])
                  r))
        ((Ex.exit 6,
            mkS 133
              [(1, AV.pt 0 0 0), (3, goI (↑i : Int)), (4, AV.pt 1 0 0), (5, AV.os 2 0 (List.length m)),
                (8, goI (↑b : Int)), (10, AV.sl P)]
              [Row.box [AV.sl X], Row.box Y, Row.arr 1 (List.map encBo m)]) =
          r))
  ((Ex.exit 6,
      mkS 133
        [(1, AV.pt 0 0 0), (3, goI (↑i : Int)), (4, AV.pt 1 0 0), (5, AV.os 2 0 (List.length m)), (8, goI (↑b : Int)),
          (10, AV.sl P)]
        [Row.box [AV.sl X], Row.box Y, Row.arr 1 (List.map encBo m)]) =
    r)) := by kernel_rfl
theorem t11_28 (X : List (List AV)) (Y : List AV) (i : Nat) (b : Nat) (k : Nat) (t : List Int) (fr : Bool) (m : List Bool) (r : Ex × St) : (turnT Try.prog H (FW false) L0 false (H 11) 0 (loopOf Try.prog 11 28)
  (mkS 133
    [(1, AV.pt 0 0 0), (3, goI (↑i : Int)), (4, AV.pt 1 0 0), (5, AV.os 2 0 (List.length m)), (8, goI (↑b : Int)),
      (10, AV.sl (List.map encI t)), (12, goB fr), (13, goI (↑k : Int))]
    [Row.box [AV.sl X], Row.box Y, Row.arr 1 (List.map encBo m)])
  r) = (TB (decide ((↑k : Int) < (↑(List.length (List.map encI t)) : Int)))
  (TB fr
    (LoopTo Try.prog H (H 11) 0 (loopOf Try.prog 11 28)
      (mkS 133
        [(1, AV.pt 0 0 0), (3, goI (↑i : Int)), (4, AV.pt 1 0 0), (5, AV.os 2 0 (List.length m)), (8, goI (↑b : Int)),
          (10, AV.sl (List.map encI t)), (12, goB true), (13, goI (IntKind.wrap IntKind.i64 ((↑k : Int) + 1)))]
        [Row.box [AV.sl X], Row.box Y, Row.arr 1 (List.map encBo m)])
      r)
    ((0 ≤ (↑k : Int) ∧ (List.map encI t)[k]? = some [goI (rdI (rowAt (List.map encI t) k) 0)]) ∧
      (0 ≤ rdI (rowAt (List.map encI t) k) 0 ∧
          rdI (rowAt (List.map encI t) k) 0 < (↑(List.length m) : Int) ∧
            0 + Int.toNat (rdI (rowAt (List.map encI t) k) 0) < List.length (List.map encBo m)) ∧
        cutAt 1 0 (List.map encBo m)[0 + Int.toNat (rdI (rowAt (List.map encI t) k) 0)]? =
            some [goB (rdB (rowAt (List.map encBo m) (0 + Int.toNat (rdI (rowAt (List.map encI t) k) 0))) 0)] ∧
          LoopTo Try.prog H (H 11) 0 (loopOf Try.prog 11 28)
            (mkS 133
              [(1, AV.pt 0 0 0), (3, goI (↑i : Int)), (4, AV.pt 1 0 0), (5, AV.os 2 0 (List.length m)),
                (8, goI (↑b : Int)), (10, AV.sl (List.map encI t)),
                (12, goB (rdB (rowAt (List.map encBo m) (0 + Int.toNat (rdI (rowAt (List.map encI t) k) 0))) 0)),
                (13, goI (IntKind.wrap IntKind.i64 ((↑k : Int) + 1)))]
              [Row.box [AV.sl X], Row.box Y, Row.arr 1 (List.map encBo m)])
            r))
  ((Ex.exit 8,
      mkS 133
        [(1, AV.pt 0 0 0), (3, goI (↑i : Int)), (4, AV.pt 1 0 0), (5, AV.os 2 0 (List.length m)), (8, goI (↑b : Int)),
          (12, goB fr)]
        [Row.box [AV.sl X], Row.box Y, Row.arr 1 (List.map encBo m)]) =
    r)) := by kernel_rfl
theorem t10 (a : List XF) (o : Bool) (r : AV × List Row × List Nat) : (runT Try.prog H (FW o) (fun id st => LT.is (Ex.exit 0) (mkS 140 [] [Row.dead, Row.dead, Row.dead, Row.dead])) false 10
  [AV.agg [AV.sl (List.map encF a)]] [] fun q => q = r) = (Wf Try.prog H 12 [] [] = some (goB true, [], []) ∧
  Wf Try.prog H 13 [AV.agg [AV.sl (List.map encF a)]] [] = some (goB o, [], []) ∧
    TB o ((goB true, [], []) = r)
      (LoopTo Try.prog H (H 10) 0 (loopOf Try.prog 10 6)
          (mkS 140 [(1, AV.pt 0 0 0), (3, goI 0)] [Row.box [AV.sl (List.map encF a)], Row.dead, Row.dead, Row.dead])
          (Ex.exit 0, mkS 140 [] [Row.dead, Row.dead, Row.dead, Row.dead]) ∧
        (goB true, [], []) = r)) := by kernel_rfl
theorem t10_6 (a : List XF) (i : Nat) (pl : List Int) (rd : Bool) (bk : Bool) (r : Ex × St) : (turnT Try.prog H (FW false) (L10 i pl rd bk) false (H 10) 0 (loopOf Try.prog 10 6)
  (mkS 140 [(1, AV.pt 0 0 0), (3, goI (↑i : Int))] [Row.box [AV.sl (List.map encF a)], Row.dead, Row.dead, Row.dead]) r) = (TB (decide ((↑i : Int) < (↑(List.length (List.map encF a)) : Int)))
  ((0 ≤ (↑i : Int) ∧
      (List.map encF a)[i]? =
        some
          [AV.sl (rdL (rowAt (List.map encF a) i) 0), AV.sl (rdL (rowAt (List.map encF a) i) 1),
            goI (rdI (rowAt (List.map encF a) i) 2), goI (rdI (rowAt (List.map encF a) i) 3),
            AV.sl (rdL (rowAt (List.map encF a) i) 4)]) ∧
    Wf Try.prog H 40
          [AV.agg
              [AV.sl (rdL (rowAt (List.map encF a) i) 0), AV.sl (rdL (rowAt (List.map encF a) i) 1),
                goI (rdI (rowAt (List.map encF a) i) 2), goI (rdI (rowAt (List.map encF a) i) 3),
                AV.sl (rdL (rowAt (List.map encF a) i) 4)]]
          [] =
        some
          (AV.os 0 0 (List.length (U.leftR (rdL (rowAt (List.map encF a) i) 4))),
            [Row.arr 1 (List.map encI (U.leftR (rdL (rowAt (List.map encF a) i) 4)))], []) ∧
      Wf Try.prog H 38
            [AV.agg
                [AV.sl (rdL (rowAt (List.map encF a) i) 0), AV.sl (rdL (rowAt (List.map encF a) i) 1),
                  goI (rdI (rowAt (List.map encF a) i) 2), goI (rdI (rowAt (List.map encF a) i) 3),
                  AV.sl (rdL (rowAt (List.map encF a) i) 4)]]
            [] =
          some (AV.sl (List.map encI (U.reachL (rdL (rowAt (List.map encF a) i) 4))), [], []) ∧
        TB
          (!(↑(List.length
                    (List.take (List.length (U.leftR (rdL (rowAt (List.map encF a) i) 4)))
                      (List.drop 0 (List.map encI (U.leftR (rdL (rowAt (List.map encF a) i) 4)))))) :
                Int) ==
              (↑(List.length (List.map encI (U.reachL (rdL (rowAt (List.map encF a) i) 4)))) : Int))
          ((Ex.ret, mkS 140 [(2, goB false)] [Row.dead, Row.dead, Row.dead, Row.dead]) = r)
          (TB
            ((↑(List.length
                    (List.take (List.length (U.leftR (rdL (rowAt (List.map encF a) i) 4)))
                      (List.drop 0 (List.map encI (U.leftR (rdL (rowAt (List.map encF a) i) 4)))))) :
                Int) ==
              0)
            ((Ex.ret, mkS 140 [(2, goB false)] [Row.dead, Row.dead, Row.dead, Row.dead]) = r)
            ((iz 0 ≤ 0 ∧
                (List.take (List.length (U.leftR (rdL (rowAt (List.map encF a) i) 4)))
                      (List.drop 0 (List.map encI (U.leftR (rdL (rowAt (List.map encF a) i) 4)))))[0]? =
                  some
                    [goI
                        (rdI
                          (rowAt
                            (List.take (List.length (U.leftR (rdL (rowAt (List.map encF a) i) 4)))
                              (List.drop 0 (List.map encI (U.leftR (rdL (rowAt (List.map encF a) i) 4)))))
                            0)
                          0)]) ∧
              TB
                (!rdI
                      (rowAt
                        (List.take (List.length (U.leftR (rdL (rowAt (List.map encF a) i) 4)))
                          (List.drop 0 (List.map encI (U.leftR (rdL (rowAt (List.map encF a) i) 4)))))
                        0)
                      0 ==
                    0)
                ((Ex.ret, mkS 140 [(2, goB false)] [Row.dead, Row.dead, Row.dead, Row.dead]) = r)
                ((0 ≤ (↑(List.length (rdL (rowAt (List.map encF a) i) 4)) : Int) ∧
                    (↑(List.length (rdL (rowAt (List.map encF a) i) 4)) : Int) ≤
                        (↑(List.length (rdL (rowAt (List.map encF a) i) 4)) : Int) ∧
                      (↑(List.length (rdL (rowAt (List.map encF a) i) 4)) : Int) ≤ (↑1000000 : Int)) ∧
                  LoopTo Try.prog H (H 10) 0 (loopOf Try.prog 10 14)
                      (mkS 140
                        [(1, AV.pt 0 0 0), (3, goI (↑i : Int)), (4, AV.pt 1 0 0),
                          (5,
                            AV.sl
                              (List.take (List.length (U.leftR (rdL (rowAt (List.map encF a) i) 4)))
                                (List.drop 0 (List.map encI (U.leftR (rdL (rowAt (List.map encF a) i) 4)))))),
                          (7,
                            AV.os 2 0
                              (List.length (List.replicate (List.length (rdL (rowAt (List.map encF a) i) 4)) [goI 0]))),
                          (8, goI 0)]
                        [Row.box [AV.sl (List.map encF a)],
                          Row.box
                            [AV.sl (rdL (rowAt (List.map encF a) i) 0), AV.sl (rdL (rowAt (List.map encF a) i) 1),
                              goI (rdI (rowAt (List.map encF a) i) 2), goI (rdI (rowAt (List.map encF a) i) 3),
                              AV.sl (rdL (rowAt (List.map encF a) i) 4)],
                          Row.arr 1 (List.replicate (List.length (rdL (rowAt (List.map encF a) i) 4)) [goI 0]),
                          Row.dead])
                      (Ex.exit 2,
                        mkS 140
                          [(1, AV.pt 0 0 0), (3, goI (↑i : Int)), (4, AV.pt 1 0 0), (7, AV.os 2 0 (List.length pl))]
                          [Row.box [AV.sl (List.map encF a)],
                            Row.box
                              [AV.sl (rdL (rowAt (List.map encF a) i) 0), AV.sl (rdL (rowAt (List.map encF a) i) 1),
                                goI (rdI (rowAt (List.map encF a) i) 2), goI (rdI (rowAt (List.map encF a) i) 3),
                                AV.sl (rdL (rowAt (List.map encF a) i) 4)],
                            Row.arr 1 (List.map encI pl), Row.dead]) ∧
                    Wf Try.prog H 20
                          [AV.agg
                              [AV.sl (rdL (rowAt (List.map encF a) i) 0), AV.sl (rdL (rowAt (List.map encF a) i) 1),
                                goI (rdI (rowAt (List.map encF a) i) 2), goI (rdI (rowAt (List.map encF a) i) 3),
                                AV.sl (rdL (rowAt (List.map encF a) i) 4)]]
                          [] =
                        some
                          (AV.os 0 0 (List.length (U.edgesR (rdL (rowAt (List.map encF a) i) 4))),
                            [Row.arr 2 (List.map encE (U.edgesR (rdL (rowAt (List.map encF a) i) 4)))], []) ∧
                      LoopTo Try.prog H (H 10) 0 (loopOf Try.prog 10 23)
                          (mkS 140
                            [(1, AV.pt 0 0 0), (3, goI (↑i : Int)), (4, AV.pt 1 0 0), (7, AV.os 2 0 (List.length pl)),
                              (9, goB false), (10, goB false),
                              (11,
                                AV.sl
                                  (List.take (List.length (U.edgesR (rdL (rowAt (List.map encF a) i) 4)))
                                    (List.drop 0 (List.map encE (U.edgesR (rdL (rowAt (List.map encF a) i) 4)))))),
                              (12, goI 0)]
                            [Row.box [AV.sl (List.map encF a)],
                              Row.box
                                [AV.sl (rdL (rowAt (List.map encF a) i) 0), AV.sl (rdL (rowAt (List.map encF a) i) 1),
                                  goI (rdI (rowAt (List.map encF a) i) 2), goI (rdI (rowAt (List.map encF a) i) 3),
                                  AV.sl (rdL (rowAt (List.map encF a) i) 4)],
                              Row.arr 1 (List.map encI pl), Row.dead])
                          (Ex.exit 4,
                            mkS 140 [(1, AV.pt 0 0 0), (3, goI (↑i : Int)), (9, goB rd), (10, goB bk)]
                              [Row.box [AV.sl (List.map encF a)],
                                Row.box
                                  [AV.sl (rdL (rowAt (List.map encF a) i) 0), AV.sl (rdL (rowAt (List.map encF a) i) 1),
                                    goI (rdI (rowAt (List.map encF a) i) 2), goI (rdI (rowAt (List.map encF a) i) 3),
                                    AV.sl (rdL (rowAt (List.map encF a) i) 4)],
                                Row.dead, Row.dead]) ∧
                        TB bk
                          (TB (!rd) ((Ex.ret, mkS 140 [(2, goB false)] [Row.dead, Row.dead, Row.dead, Row.dead]) = r)
                            (LoopTo Try.prog H (H 10) 0 (loopOf Try.prog 10 6)
                              (mkS 140 [(1, AV.pt 0 0 0), (3, goI (IntKind.wrap IntKind.i64 ((↑i : Int) + 1)))]
                                [Row.box [AV.sl (List.map encF a)], Row.dead, Row.dead, Row.dead])
                              r))
                          (LoopTo Try.prog H (H 10) 0 (loopOf Try.prog 10 6)
                            (mkS 140 [(1, AV.pt 0 0 0), (3, goI (IntKind.wrap IntKind.i64 ((↑i : Int) + 1)))]
                              [Row.box [AV.sl (List.map encF a)], Row.dead, Row.dead, Row.dead])
                            r)))))
  ((Ex.exit 0, mkS 140 [] [Row.dead, Row.dead, Row.dead, Row.dead]) = r)) := by kernel_rfl
theorem t10_14 (X : List (List AV)) (Y : List AV) (i : Nat) (k : Nat) (l : List Int) (pl : List Int) (r : Ex × St) : (turnT Try.prog H (FW false) L0 false (H 10) 0 (loopOf Try.prog 10 14)
  (mkS 140
    [(1, AV.pt 0 0 0), (3, goI (↑i : Int)), (4, AV.pt 1 0 0), (5, AV.sl (List.map encI l)),
      (7, AV.os 2 0 (List.length pl)), (8, goI (↑k : Int))]
    [Row.box [AV.sl X], Row.box Y, Row.arr 1 (List.map encI pl), Row.dead])
  r) = (TB (decide ((↑k : Int) < (↑(List.length (List.map encI l)) : Int)))
  ((0 ≤ (↑k : Int) ∧ (List.map encI l)[k]? = some [goI (rdI (rowAt (List.map encI l) k) 0)]) ∧
    TB (decide (rdI (rowAt (List.map encI l) k) 0 < 0))
      ((Ex.ret, mkS 140 [(2, goB false)] [Row.dead, Row.dead, Row.dead, Row.dead]) = r)
      ((0 ≤ (↑k : Int) ∧ (List.map encI l)[k]? = some [goI (rdI (rowAt (List.map encI l) k) 0)]) ∧
        TB (decide (rdI (rowAt (List.map encI l) k) 0 ≥ (↑(List.length pl) : Int)))
          ((Ex.ret, mkS 140 [(2, goB false)] [Row.dead, Row.dead, Row.dead, Row.dead]) = r)
          ((0 ≤ (↑k : Int) ∧ (List.map encI l)[k]? = some [goI (rdI (rowAt (List.map encI l) k) 0)]) ∧
            (0 ≤ rdI (rowAt (List.map encI l) k) 0 ∧
                rdI (rowAt (List.map encI l) k) 0 < (↑(List.length pl) : Int) ∧
                  0 + Int.toNat (rdI (rowAt (List.map encI l) k) 0) < List.length (List.map encI pl)) ∧
              cutAt 1 0 (List.map encI pl)[0 + Int.toNat (rdI (rowAt (List.map encI l) k) 0)]? =
                  some [goI (rdI (rowAt (List.map encI pl) (0 + Int.toNat (rdI (rowAt (List.map encI l) k) 0))) 0)] ∧
                TB (!rdI (rowAt (List.map encI pl) (0 + Int.toNat (rdI (rowAt (List.map encI l) k) 0))) 0 == 0)
                  ((Ex.ret, mkS 140 [(2, goB false)] [Row.dead, Row.dead, Row.dead, Row.dead]) = r)
                  ((0 ≤ (↑k : Int) ∧ (List.map encI l)[k]? = some [goI (rdI (rowAt (List.map encI l) k) 0)]) ∧
                    (0 ≤ rdI (rowAt (List.map encI l) k) 0 ∧
                        rdI (rowAt (List.map encI l) k) 0 < (↑(List.length pl) : Int) ∧
                          0 + Int.toNat (rdI (rowAt (List.map encI l) k) 0) < List.length (List.map encI pl)) ∧
                      Option.map List.length (List.map encI pl)[0 + Int.toNat (rdI (rowAt (List.map encI l) k) 0)]? =
                          some 1 ∧
                        LoopTo Try.prog H (H 10) 0 (loopOf Try.prog 10 14)
                          (mkS 140
                            [(1, AV.pt 0 0 0), (3, goI (↑i : Int)), (4, AV.pt 1 0 0), (5, AV.sl (List.map encI l)),
                              (7, AV.os 2 0 (List.length pl)), (8, goI (IntKind.wrap IntKind.i64 ((↑k : Int) + 1)))]
                            [Row.box [AV.sl X], Row.box Y,
                              Row.arr 1
                                (List.set (List.map encI pl) (0 + Int.toNat (rdI (rowAt (List.map encI l) k) 0))
                                  [goI (IntKind.wrap IntKind.i64 ((↑k : Int) + 1))]),
                              Row.dead])
                          r))))
  ((Ex.exit 2,
      mkS 140 [(1, AV.pt 0 0 0), (3, goI (↑i : Int)), (4, AV.pt 1 0 0), (7, AV.os 2 0 (List.length pl))]
        [Row.box [AV.sl X], Row.box Y, Row.arr 1 (List.map encI pl), Row.dead]) =
    r)) := by kernel_rfl
theorem t10_23 (X : List (List AV)) (ks : List (List AV)) (bs : List (List AV)) (p : Int) (q : Int) (bl : List XB) (i : Nat) (k : Nat) (es : List XE) (pl : List Int) (rd : Bool) (bk : Bool) (r : Ex × St) : (turnT Try.prog H (FW false) L0 false (H 10) 0 (loopOf Try.prog 10 23)
  (mkS 140
    [(1, AV.pt 0 0 0), (3, goI (↑i : Int)), (4, AV.pt 1 0 0), (7, AV.os 2 0 (List.length pl)), (9, goB rd),
      (10, goB bk), (11, AV.sl (List.map encE es)), (12, goI (↑k : Int))]
    [Row.box [AV.sl X], Row.box [AV.sl ks, AV.sl bs, goI p, goI q, AV.sl (List.map encB bl)],
      Row.arr 1 (List.map encI pl), Row.dead])
  r) = (TB (decide ((↑k : Int) < (↑(List.length (List.map encE es)) : Int)))
  ((0 ≤ (↑k : Int) ∧
      (List.map encE es)[k]? =
        some [goI (rdI (rowAt (List.map encE es) k) 0), goI (rdI (rowAt (List.map encE es) k) 1)]) ∧
    (0 ≤ rdI (rowAt (List.map encE es) k) 0 ∧
        rdI (rowAt (List.map encE es) k) 0 < (↑(List.length pl) : Int) ∧
          0 + Int.toNat (rdI (rowAt (List.map encE es) k) 0) < List.length (List.map encI pl)) ∧
      cutAt 1 0 (List.map encI pl)[0 + Int.toNat (rdI (rowAt (List.map encE es) k) 0)]? =
          some [goI (rdI (rowAt (List.map encI pl) (0 + Int.toNat (rdI (rowAt (List.map encE es) k) 0))) 0)] ∧
        TB (rdI (rowAt (List.map encI pl) (0 + Int.toNat (rdI (rowAt (List.map encE es) k) 0))) 0 == 0)
          (LoopTo Try.prog H (H 10) 0 (loopOf Try.prog 10 23)
            (mkS 140
              [(1, AV.pt 0 0 0), (3, goI (↑i : Int)), (4, AV.pt 1 0 0), (7, AV.os 2 0 (List.length pl)), (9, goB rd),
                (10, goB bk), (11, AV.sl (List.map encE es)), (12, goI (IntKind.wrap IntKind.i64 ((↑k : Int) + 1)))]
              [Row.box [AV.sl X], Row.box [AV.sl ks, AV.sl bs, goI p, goI q, AV.sl (List.map encB bl)],
                Row.arr 1 (List.map encI pl), Row.dead])
            r)
          (TB rd
            (TB bk
              (LoopTo Try.prog H (H 10) 0 (loopOf Try.prog 10 23)
                (mkS 140
                  [(1, AV.pt 0 0 0), (3, goI (↑i : Int)), (4, AV.pt 1 0 0), (7, AV.os 2 0 (List.length pl)),
                    (9, goB true), (10, goB true), (11, AV.sl (List.map encE es)),
                    (12, goI (IntKind.wrap IntKind.i64 ((↑k : Int) + 1)))]
                  [Row.box [AV.sl X], Row.box [AV.sl ks, AV.sl bs, goI p, goI q, AV.sl (List.map encB bl)],
                    Row.arr 1 (List.map encI pl), Row.dead])
                r)
              ((0 ≤ rdI (rowAt (List.map encE es) k) 1 ∧
                  rdI (rowAt (List.map encE es) k) 1 < (↑(List.length pl) : Int) ∧
                    0 + Int.toNat (rdI (rowAt (List.map encE es) k) 1) < List.length (List.map encI pl)) ∧
                cutAt 1 0 (List.map encI pl)[0 + Int.toNat (rdI (rowAt (List.map encE es) k) 1)]? =
                    some [goI (rdI (rowAt (List.map encI pl) (0 + Int.toNat (rdI (rowAt (List.map encE es) k) 1))) 0)] ∧
                  (0 ≤ rdI (rowAt (List.map encE es) k) 0 ∧
                      rdI (rowAt (List.map encE es) k) 0 < (↑(List.length pl) : Int) ∧
                        0 + Int.toNat (rdI (rowAt (List.map encE es) k) 0) < List.length (List.map encI pl)) ∧
                    cutAt 1 0 (List.map encI pl)[0 + Int.toNat (rdI (rowAt (List.map encE es) k) 0)]? =
                        some
                          [goI
                              (rdI (rowAt (List.map encI pl) (0 + Int.toNat (rdI (rowAt (List.map encE es) k) 0))) 0)] ∧
                      LoopTo Try.prog H (H 10) 0 (loopOf Try.prog 10 23)
                        (mkS 140
                          [(1, AV.pt 0 0 0), (3, goI (↑i : Int)), (4, AV.pt 1 0 0), (7, AV.os 2 0 (List.length pl)),
                            (9, goB true),
                            (10,
                              goB
                                (decide
                                  (rdI (rowAt (List.map encI pl) (0 + Int.toNat (rdI (rowAt (List.map encE es) k) 1)))
                                      0 ≤
                                    rdI (rowAt (List.map encI pl) (0 + Int.toNat (rdI (rowAt (List.map encE es) k) 0)))
                                      0))),
                            (11, AV.sl (List.map encE es)), (12, goI (IntKind.wrap IntKind.i64 ((↑k : Int) + 1)))]
                          [Row.box [AV.sl X], Row.box [AV.sl ks, AV.sl bs, goI p, goI q, AV.sl (List.map encB bl)],
                            Row.arr 1 (List.map encI pl), Row.dead])
                        r))
            (Wf Try.prog H 42
                  [AV.agg [AV.sl ks, AV.sl bs, goI p, goI q, AV.sl (List.map encB bl)],
                    goI (rdI (rowAt (List.map encE es) k) 1), goI (-1)]
                  [] =
                some
                  (AV.os 0 0 (List.length (U.withR (List.map encB bl) (rdI (rowAt (List.map encE es) k) 1))),
                    [Row.arr 1 (List.map encBo (U.withR (List.map encB bl) (rdI (rowAt (List.map encE es) k) 1)))],
                    []) ∧
              (0 ≤ rdI (rowAt (List.map encE es) k) 0 ∧
                  (List.take (List.length (U.withR (List.map encB bl) (rdI (rowAt (List.map encE es) k) 1)))
                        (List.drop 0
                          (List.map encBo
                            (U.withR (List.map encB bl)
                              (rdI (rowAt (List.map encE es) k)
                                1)))))[Int.toNat (rdI (rowAt (List.map encE es) k) 0)]? =
                    some
                      [goB
                          (rdB
                            (rowAt
                              (List.take (List.length (U.withR (List.map encB bl) (rdI (rowAt (List.map encE es) k) 1)))
                                (List.drop 0
                                  (List.map encBo (U.withR (List.map encB bl) (rdI (rowAt (List.map encE es) k) 1)))))
                              (Int.toNat (rdI (rowAt (List.map encE es) k) 0)))
                            0)]) ∧
                TB bk
                  (LoopTo Try.prog H (H 10) 0 (loopOf Try.prog 10 23)
                    (mkS 140
                      [(1, AV.pt 0 0 0), (3, goI (↑i : Int)), (4, AV.pt 1 0 0), (7, AV.os 2 0 (List.length pl)),
                        (9,
                          goB
                            (rdB
                              (rowAt
                                (List.take
                                  (List.length (U.withR (List.map encB bl) (rdI (rowAt (List.map encE es) k) 1)))
                                  (List.drop 0
                                    (List.map encBo (U.withR (List.map encB bl) (rdI (rowAt (List.map encE es) k) 1)))))
                                (Int.toNat (rdI (rowAt (List.map encE es) k) 0)))
                              0)),
                        (10, goB true), (11, AV.sl (List.map encE es)),
                        (12, goI (IntKind.wrap IntKind.i64 ((↑k : Int) + 1)))]
                      [Row.box [AV.sl X], Row.box [AV.sl ks, AV.sl bs, goI p, goI q, AV.sl (List.map encB bl)],
                        Row.arr 1 (List.map encI pl), Row.dead])
                    r)
                  ((0 ≤ rdI (rowAt (List.map encE es) k) 1 ∧
                      rdI (rowAt (List.map encE es) k) 1 < (↑(List.length pl) : Int) ∧
                        0 + Int.toNat (rdI (rowAt (List.map encE es) k) 1) < List.length (List.map encI pl)) ∧
                    cutAt 1 0 (List.map encI pl)[0 + Int.toNat (rdI (rowAt (List.map encE es) k) 1)]? =
                        some
                          [goI
                              (rdI (rowAt (List.map encI pl) (0 + Int.toNat (rdI (rowAt (List.map encE es) k) 1))) 0)] ∧
                      (0 ≤ rdI (rowAt (List.map encE es) k) 0 ∧
                          rdI (rowAt (List.map encE es) k) 0 < (↑(List.length pl) : Int) ∧
                            0 + Int.toNat (rdI (rowAt (List.map encE es) k) 0) < List.length (List.map encI pl)) ∧
                        cutAt 1 0 (List.map encI pl)[0 + Int.toNat (rdI (rowAt (List.map encE es) k) 0)]? =
                            some
                              [goI
                                  (rdI (rowAt (List.map encI pl) (0 + Int.toNat (rdI (rowAt (List.map encE es) k) 0)))
                                    0)] ∧
                          LoopTo Try.prog H (H 10) 0 (loopOf Try.prog 10 23)
                            (mkS 140
                              [(1, AV.pt 0 0 0), (3, goI (↑i : Int)), (4, AV.pt 1 0 0), (7, AV.os 2 0 (List.length pl)),
                                (9,
                                  goB
                                    (rdB
                                      (rowAt
                                        (List.take
                                          (List.length
                                            (U.withR (List.map encB bl) (rdI (rowAt (List.map encE es) k) 1)))
                                          (List.drop 0
                                            (List.map encBo
                                              (U.withR (List.map encB bl) (rdI (rowAt (List.map encE es) k) 1)))))
                                        (Int.toNat (rdI (rowAt (List.map encE es) k) 0)))
                                      0)),
                                (10,
                                  goB
                                    (decide
                                      (rdI
                                          (rowAt (List.map encI pl)
                                            (0 + Int.toNat (rdI (rowAt (List.map encE es) k) 1)))
                                          0 ≤
                                        rdI
                                          (rowAt (List.map encI pl)
                                            (0 + Int.toNat (rdI (rowAt (List.map encE es) k) 0)))
                                          0))),
                                (11, AV.sl (List.map encE es)), (12, goI (IntKind.wrap IntKind.i64 ((↑k : Int) + 1)))]
                              [Row.box [AV.sl X], Row.box [AV.sl ks, AV.sl bs, goI p, goI q, AV.sl (List.map encB bl)],
                                Row.arr 1 (List.map encI pl), Row.dead])
                            r))))
  ((Ex.exit 4,
      mkS 140 [(1, AV.pt 0 0 0), (3, goI (↑i : Int)), (9, goB rd), (10, goB bk)]
        [Row.box [AV.sl X], Row.box [AV.sl ks, AV.sl bs, goI p, goI q, AV.sl (List.map encB bl)], Row.dead, Row.dead]) =
    r)) := by kernel_rfl
theorem leftR_map (bl : List XB) : U.leftR (bl.map encB) = (U.left (U.nextAt bl) bl.length).reverse := by unfold U.leftR; rw [decBs_map, List.length_map]
theorem reachL_map (bl : List XB) : U.reachL (bl.map encB) = U.isort (U.left (U.nextAt bl) bl.length).reverse := by unfold U.reachL; rw [leftR_map]
theorem onR_map (bl : List XB) : U.onR (bl.map encB) = onL (U.withinB (U.nextAt bl) bl.length 0 (-1)) bl.length 0 := by unfold U.onR; rw [decBs_map, List.length_map]
theorem withR_map (bl : List XB) (fr : Int) : U.withR (bl.map encB) fr = U.withinB (U.nextAt bl) bl.length fr (-1) := by unfold U.withR; rw [decBs_map, List.length_map]
theorem hnx_of {bl : List XB} (hT : TgtOk bl) : ∀ x : Int, 0 ≤ x → x < bl.length → ∀ y ∈ U.nextAt bl x, 0 ≤ y ∧ y < bl.length := fun x h0 h1 y hy => by
  have := hT x.toNat (by omega) y (by rw [show ((x.toNat : Nat) : Int) = x by omega]; exact hy)
  omega
theorem loop9_6 (a : List XF) (ha : a.length ≤ 3000) (hs : ∀ f ∈ a, SmallF f) (hok : U.okProg a = true) : ∀ (d i : Nat), i + d = a.length →
    LoopTo Try.prog H (H 9) 0 (loopOf Try.prog 9 6) (mkS 35 [(1, .pt 0 0 0), (3, goI i)] [.box [.sl (a.map encF)], .dead]) (.exit 0, mkS 35 [] [.dead, .dead])
  | 0, i, hd => by
    refine turnK (t9_6 a i _) ?_
    rw [List.length_map, decide_eq_false (by omega)]
    exact rfl
  | d + 1, i, hd => by
    have hi : i < a.length := by omega
    have ih := loop9_6 a ha hs hok d (i + 1) (by omega)
    have hf := hs _ (fun_mem hi)
    have hc := codeOk_of hf
    have hl : (U.fun_ a i).blocks.length ≤ 3000 := hf.2.2.1
    have h0 : 0 < (U.fun_ a i).blocks.length := (funcOk_of (okFunc_at hok (fun_mem hi))).blocks.1
    have hsort := left_sorted (hnx_of (tgtOk_of hok hi)) h0
    have w38 := wf38 ((U.fun_ a i).kinds.map encI) ((U.fun_ a i).base.map encI) (U.fun_ a i).params (U.fun_ a i).result (U.fun_ a i).blocks hc hl h0
    have w39 := wf39 ((U.fun_ a i).kinds.map encI) ((U.fun_ a i).base.map encI) (U.fun_ a i).params (U.fun_ a i).result (U.fun_ a i).blocks hc hl
    have w40 := wf40 ((U.fun_ a i).kinds.map encI) ((U.fun_ a i).base.map encI) (U.fun_ a i).params (U.fun_ a i).result (U.fun_ a i).blocks hc hl h0
    have w41 := wf41 ((U.fun_ a i).kinds.map encI) ((U.fun_ a i).base.map encI) (U.fun_ a i).params (U.fun_ a i).result (U.fun_ a i).blocks hc hl h0
    have wl := wf14s (U.left (U.nextAt (U.fun_ a i).blocks) (U.fun_ a i).blocks.length).reverse (by have := left_len (nx := U.nextAt (U.fun_ a i).blocks) (U.fun_ a i).blocks.length; rw [List.length_reverse]; omega)
    have wo := wf14s (onL (U.withinB (U.nextAt (U.fun_ a i).blocks) (U.fun_ a i).blocks.length 0 (-1)) (U.fun_ a i).blocks.length 0) (by have := onL_len (U.withinB (U.nextAt (U.fun_ a i).blocks) (U.fun_ a i).blocks.length 0 (-1)) (U.fun_ a i).blocks.length 0; omega)
    rw [hsort] at w38
    refine turnK (t9_6 a i _) ?_
    rw [List.length_map, decide_eq_true (show (i : Int) < a.length by omega), wrapS hi (by omega), rowF hi, getF hi]
    simp only [encF, rdI, rdL, slOf, List.getD_cons_zero, List.getD_cons_succ, int_goI, leftR_map, reachL_map, onR_map, take_map, hsort]
    exact ⟨⟨by omega, by trivial⟩, w38, w39, wo, w40, w41, wl, ih⟩
theorem wf9 (p : XP) (hp : HandP p) : Wf Try.prog H 9 [.agg (encP p)] [] = some (goB true, [], []) := by
  refine runK (t9 p.funcs (U.out p) _) ⟨wf12, wf13 p hp, ?_⟩
  cases ho : U.out p with
  | true => exact rfl
  | false =>
    unfold U.out at ho
    rw [Bool.or_eq_false_iff] at ho
    obtain ⟨h1, h2⟩ := small_of ho.1
    have hok : U.okProg p.funcs = true := by simpa using ho.2
    exact ⟨loop9_6 p.funcs h1 h2 hok p.funcs.length 0 (by omega), rfl⟩
theorem loop11_12 (X : List (List AV)) (Y : List AV) (i : Nat) (l : List Int) (hll : l.length < 1000000) (hnd : l.Nodup) : ∀ (d k : Nat) (m : List Bool), k + d = l.length → (∀ x ∈ l.drop k, 0 ≤ x ∧ x < m.length ∧ ¬ on m x.toNat) →
    ∃ m', LoopTo Try.prog H (H 11) 0 (loopOf Try.prog 11 12) (mkS 133 [(1, .pt 0 0 0), (3, goI i), (4, .pt 1 0 0), (5, .os 2 0 m.length), (6, .sl (l.map encI)), (7, goI k)] [.box [.sl X], .box Y, .arr 1 (m.map encBo)])
        (.exit 2, mkS 133 [(1, .pt 0 0 0), (3, goI i), (4, .pt 1 0 0), (5, .os 2 0 m'.length)] [.box [.sl X], .box Y, .arr 1 (m'.map encBo)]) ∧ m'.length = m.length ∧ ∀ x : Nat, on m' x ↔ on m x ∨ (x : Int) ∈ l.drop k
  | 0, k, m, hd, hx => by
    have elen : (l.map encI).length = l.length := List.length_map _
    refine ⟨m, turnK (t11_12 X Y i k l m _) ?_, rfl, fun x => ?_⟩
    · rw [elen, decide_eq_false (by omega)]; exact rfl
    · rw [List.drop_of_length_le (by omega)]; simp
  | d + 1, k, m, hd, hx => by
    have elen : (l.map encI).length = l.length := List.length_map _
    have hk : k < l.length := by omega
    have ed : l.drop k = U.nt l k :: l.drop (k + 1) := drop_cons' l hk
    have e1 : rdI (rowAt (l.map encI) k) 0 = U.nt l k := by rw [rowI hk]; rfl
    have hnd' : (U.nt l k :: l.drop (k + 1)).Nodup := by rw [← ed]; exact hnd.sublist (List.drop_sublist _ _)
    obtain ⟨x0, x1, x2⟩ := hx (U.nt l k) (by rw [ed]; simp)
    have xf : m.getD (U.nt l k).toNat default = false := by
      unfold on at x2
      cases h : m.getD (U.nt l k).toNat default with
      | false => rfl
      | true => exact absurd h x2
    obtain ⟨m', k1, k2, k3⟩ := loop11_12 X Y i l hll hnd d (k + 1) (m.set (U.nt l k).toNat true) (by omega) (fun x hx' => by
      have := hx x (by rw [ed]; exact List.mem_cons_of_mem _ hx')
      refine ⟨this.1, by rw [List.length_set]; exact this.2.1, ?_⟩
      rw [on_set _ (by omega)]
      rintro (q | q)
      · exact this.2.2 q
      · have e : x = U.nt l k := by omega
        exact (List.nodup_cons.1 hnd').1 (e ▸ hx'))
    obtain ⟨c1, c2⟩ := rowBo (m := m) (show (U.nt l k).toNat < m.length by omega)
    refine ⟨m', turnK (t11_12 X Y i k l m _) ?_, by rw [k2, List.length_set], fun x => ?_⟩
    · rw [elen, decide_eq_true (by omega), e1, getI hk, decide_eq_false (show ¬ U.nt l k < 0 by omega), decide_eq_false (show ¬ U.nt l k ≥ m.length by omega), c1, c2, xf, wrapS hk hll, setBo]
      rw [List.length_set] at k1
      exact ⟨⟨by omega, rfl⟩, ⟨by omega, rfl⟩, ⟨by omega, rfl⟩, ⟨by omega, by omega, by rw [List.length_map]; omega⟩, rfl, ⟨by omega, rfl⟩, ⟨by omega, by omega, by rw [List.length_map]; omega⟩, rfl, k1⟩
    · rw [k3 x, on_set x (by omega), ed, List.mem_cons, or_assoc]
      have : x = (U.nt l k).toNat ↔ (x : Int) = U.nt l k := by omega
      rw [this]
theorem loop11_22 (X : List (List AV)) (Y : List AV) (P : List (List AV)) (i b : Nat) (t : List Int) (ht : t.length ≤ 2) (m : List Bool) (hb : b < m.length) (hx : on m b → ∀ x ∈ t, 0 ≤ x ∧ x < m.length ∧ on m x.toNat) : ∀ (d k : Nat), k + d = t.length →
    LoopTo Try.prog H (H 11) 0 (loopOf Try.prog 11 22) (mkS 133 [(1, .pt 0 0 0), (3, goI i), (4, .pt 1 0 0), (5, .os 2 0 m.length), (8, goI b), (9, .sl (t.map encI)), (10, .sl P), (11, goI k)] [.box [.sl X], .box Y, .arr 1 (m.map encBo)])
        (.exit 6, mkS 133 [(1, .pt 0 0 0), (3, goI i), (4, .pt 1 0 0), (5, .os 2 0 m.length), (8, goI b), (10, .sl P)] [.box [.sl X], .box Y, .arr 1 (m.map encBo)])
  | 0, k, hd => by
    have elen : (t.map encI).length = t.length := List.length_map _
    refine turnK (t11_22 X Y P i b k t m _) ?_
    rw [elen, decide_eq_false (by omega)]; exact rfl
  | d + 1, k, hd => by
    have elen : (t.map encI).length = t.length := List.length_map _
    have hk : k < t.length := by omega
    have e1 : rdI (rowAt (t.map encI) k) 0 = U.nt t k := by rw [rowI hk]; rfl
    have ih := loop11_22 X Y P i b t ht m hb hx d (k + 1) (by omega)
    obtain ⟨b1, b2⟩ := rowBo hb
    have hin : 0 ≤ (b : Int) ∧ (b : Int) < m.length ∧ 0 + b < (m.map encBo).length := ⟨by omega, by omega, by rw [List.length_map]; omega⟩
    refine turnK (t11_22 X Y P i b k t m _) ?_
    rw [elen, decide_eq_true (by omega), b1, b2]
    refine ⟨hin, rfl, ?_⟩
    cases hon : m.getD b default with
    | false => exact rfl
    | true =>
      obtain ⟨x0, x1, x2⟩ := hx hon (U.nt t k) (getD_mem hk)
      obtain ⟨c1, c2⟩ := rowBo (m := m) (show (U.nt t k).toNat < m.length by omega)
      unfold on at x2
      rw [e1, getI hk, c1, c2, x2, wrapS hk (by omega)]
      exact ⟨⟨by omega, rfl⟩, ⟨by omega, by omega, by rw [List.length_map]; omega⟩, rfl, ih⟩
theorem loop11_28 (X : List (List AV)) (Y : List AV) (i b : Nat) (t : List Int) (ht : t.length < 1000000) (m : List Bool) (hx : ∀ x ∈ t, 0 ≤ x ∧ x < m.length) : ∀ (d k : Nat) (fr : Bool), k + d = t.length →
    ∃ fr' : Bool, LoopTo Try.prog H (H 11) 0 (loopOf Try.prog 11 28) (mkS 133 [(1, .pt 0 0 0), (3, goI i), (4, .pt 1 0 0), (5, .os 2 0 m.length), (8, goI b), (10, .sl (t.map encI)), (12, goB fr), (13, goI k)] [.box [.sl X], .box Y, .arr 1 (m.map encBo)])
        (.exit 8, mkS 133 [(1, .pt 0 0 0), (3, goI i), (4, .pt 1 0 0), (5, .os 2 0 m.length), (8, goI b), (12, goB fr')] [.box [.sl X], .box Y, .arr 1 (m.map encBo)]) ∧ (fr' = true ↔ fr = true ∨ ∃ x ∈ t.drop k, on m x.toNat)
  | 0, k, fr, hd => by
    have elen : (t.map encI).length = t.length := List.length_map _
    refine ⟨fr, turnK (t11_28 X Y i b k t fr m _) ?_, ?_⟩
    · rw [elen, decide_eq_false (by omega)]; exact rfl
    · rw [List.drop_of_length_le (by omega)]; simp
  | d + 1, k, fr, hd => by
    have elen : (t.map encI).length = t.length := List.length_map _
    have hk : k < t.length := by omega
    have ed : t.drop k = U.nt t k :: t.drop (k + 1) := drop_cons' t hk
    have e1 : rdI (rowAt (t.map encI) k) 0 = U.nt t k := by rw [rowI hk]; rfl
    obtain ⟨x0, x1⟩ := hx (U.nt t k) (getD_mem hk)
    obtain ⟨c1, c2⟩ := rowBo (m := m) (show (U.nt t k).toNat < m.length by omega)
    cases fr with
    | true =>
      obtain ⟨fr', k1, k2⟩ := loop11_28 X Y i b t ht m hx d (k + 1) true (by omega)
      refine ⟨fr', turnK (t11_28 X Y i b k t true m _) ?_, by rw [k2]; simp⟩
      rw [elen, decide_eq_true (by omega), wrapS hk ht]
      exact k1
    | false =>
      obtain ⟨fr', k1, k2⟩ := loop11_28 X Y i b t ht m hx d (k + 1) (m.getD (U.nt t k).toNat default) (by omega)
      refine ⟨fr', turnK (t11_28 X Y i b k t false m _) ?_, ?_⟩
      · rw [elen, decide_eq_true (by omega), e1, getI hk, c1, c2, wrapS hk ht]
        exact ⟨⟨by omega, rfl⟩, ⟨by omega, by omega, by rw [List.length_map]; omega⟩, rfl, k1⟩
      · rw [k2, ed]
        constructor
        · rintro (h | ⟨x, h1, h2⟩)
          · exact .inr ⟨_, by simp, h⟩
          · exact .inr ⟨x, List.mem_cons_of_mem _ h1, h2⟩
        · rintro (h | ⟨x, h1, h2⟩)
          · cases h
          · rcases List.mem_cons.1 h1 with rfl | h1
            · exact .inl h2
            · exact .inr ⟨x, h1, h2⟩
/-- What is reached is 0, or comes next to what is reached. -/
theorem way_back {nx : Int → List Int} {n : Nat} {x : Nat} (h : Way nx n 0 x) : x = 0 ∨ ∃ y : Nat, y < n ∧ Way nx n 0 y ∧ (x : Int) ∈ nx y := by
  cases h with
  | refl => exact .inl rfl
  | step y t h1 h2 h3 h4 h5 h6 => exact .inr ⟨y, h2, h1, by rw [show ((t.toNat : Nat) : Int) = t by omega]; exact h3⟩
section
variable (X : List (List AV)) (ks bs : List (List AV)) (p q : Int) (bl : List XB) (hc : CodeOk bl) (hl : bl.length ≤ 3000) (h0 : 0 < bl.length) (hT : TgtOk bl)
include hc hl h0 hT
theorem loop11_18 (i : Nat) : ∀ (d b : Nat), b + d = bl.length →
    LoopTo Try.prog H (H 11) 0 (loopOf Try.prog 11 18) (mkS 133 [(1, .pt 0 0 0), (3, goI i), (4, .pt 1 0 0), (5, .os 2 0 (U.withinB (U.nextAt bl) bl.length 0 (-1)).length), (8, goI b)] [.box [.sl X], .box [.sl ks, .sl bs, goI p, goI q, .sl (bl.map encB)], .arr 1 ((U.withinB (U.nextAt bl) bl.length 0 (-1)).map encBo)])
        (.exit 4, mkS 133 [(1, .pt 0 0 0), (3, goI i), (5, .os 2 0 (U.withinB (U.nextAt bl) bl.length 0 (-1)).length)] [.box [.sl X], .box [.sl ks, .sl bs, goI p, goI q, .sl (bl.map encB)], .arr 1 ((U.withinB (U.nextAt bl) bl.length 0 (-1)).map encBo)])
  | 0, b, hd => by
    have hm := withinB_len (U.nextAt bl) bl.length 0 (-1)
    refine turnK (t11_18 X ks bs p q bl i b (U.withinB (U.nextAt bl) bl.length 0 (-1)) false _) ?_
    rw [decide_eq_false (by omega)]; exact rfl
  | d + 1, b, hd => by
    have hm := withinB_len (U.nextAt bl) bl.length 0 (-1)
    have ih := loop11_18 i d (b + 1) (by omega)
    have hon : ∀ x, on (U.withinB (U.nextAt bl) bl.length 0 (-1)) x ↔ x < bl.length ∧ Way (U.nextAt bl) bl.length 0 x := fun x => by
      rw [withinB_on]
      exact ⟨fun h => ⟨h.1, h.2.2.2.2⟩, fun h => ⟨h.1, by omega, by omega, by omega, h.2⟩⟩
    generalize U.withinB (U.nextAt bl) bl.length 0 (-1) = m at *
    have w15 := wf15 ks bs p q bl b hc
    have w17 := wf17 ks bs p q bl hc hl b
    rw [show (decide ((b : Int) < 0) || decide ((b : Int) ≥ bl.length)) = false by rw [decide_eq_false (by omega), decide_eq_false (by omega)]; rfl] at w17
    have hnx := hnx_of hT
    have l22 := loop11_22 X [.sl ks, .sl bs, goI p, goI q, .sl (bl.map encB)] ((U.prevAt bl b).map encI) i b (U.nextAt bl b) (nextAt_len bl b) m (by omega) (fun hb x hx => by
      have hr := hnx b (by omega) (by omega) x hx
      exact ⟨hr.1, by omega, (hon _).2 ⟨by omega, WayW.step b x ((hon b).1 hb).2 (by omega) hx hr.1 hr.2 (by omega)⟩⟩) (U.nextAt bl b).length 0 (by omega)
    have hpl : (U.prevAt bl b).length ≤ bl.length := prev_len bl b bl.length 0
    obtain ⟨fr, l28, hfr⟩ := loop11_28 X [.sl ks, .sl bs, goI p, goI q, .sl (bl.map encB)] i b (U.prevAt bl b) (by omega) m (fun x hx => by
      obtain ⟨_, j, hj, rfl, _⟩ := (mem_prevAt bl b x).1 hx
      omega) (U.prevAt bl b).length 0 ((b : Int) == 0) (by omega)
    obtain ⟨b1, b2⟩ := rowBo (m := m) (show b < m.length by omega)
    refine turnK (t11_18 X ks bs p q bl i b m fr _) ?_
    rw [decide_eq_true (show (b : Int) < m.length by omega), List.length_map, decide_eq_false (show ¬ (b : Int) ≥ bl.length by omega), nextR_map, prevR_map, take_map, b1, b2, wrapS (show b < m.length by omega) (by omega)]
    refine ⟨w15, w17, l22, l28, ⟨by omega, by omega, by rw [List.length_map]; omega⟩, rfl, ?_⟩
    cases hb : m.getD b default with
    | false => exact ih
    | true =>
      have hft : fr = true := by
        rw [hfr]
        rcases way_back ((hon b).1 hb).2 with rfl | ⟨y, hy, hw, hny⟩
        · exact .inl rfl
        · exact .inr ⟨(y : Int), by rw [List.drop_zero, mem_prevAt]; exact ⟨⟨by omega, by omega⟩, y, hy, rfl, hny⟩, (hon _).2 ⟨hy, hw⟩⟩
      rw [hft]
      exact ih
end
theorem loop11_6 (a : List XF) (ha : a.length ≤ 3000) (hs : ∀ f ∈ a, SmallF f) (hok : U.okProg a = true) : ∀ (d i : Nat), i + d = a.length →
    LoopTo Try.prog H (H 11) 0 (loopOf Try.prog 11 6) (mkS 133 [(1, .pt 0 0 0), (3, goI i)] [.box [.sl (a.map encF)], .dead, .dead]) (.exit 0, mkS 133 [] [.dead, .dead, .dead])
  | 0, i, hd => by
    refine turnK (t11_6 a i [] _) ?_
    rw [List.length_map, decide_eq_false (by omega)]
    exact rfl
  | d + 1, i, hd => by
    have hi : i < a.length := by omega
    have ih := loop11_6 a ha hs hok d (i + 1) (by omega)
    have hf := hs _ (fun_mem hi)
    have hc := codeOk_of hf
    have hl : (U.fun_ a i).blocks.length ≤ 3000 := hf.2.2.1
    have h0 : 0 < (U.fun_ a i).blocks.length := (funcOk_of (okFunc_at hok (fun_mem hi))).blocks.1
    have hT := tgtOk_of hok hi
    have hsort := left_sorted (hnx_of hT) h0
    have w38 := wf38 ((U.fun_ a i).kinds.map encI) ((U.fun_ a i).base.map encI) (U.fun_ a i).params (U.fun_ a i).result (U.fun_ a i).blocks hc hl h0
    have l18 := loop11_18 (a.map encF) ((U.fun_ a i).kinds.map encI) ((U.fun_ a i).base.map encI) (U.fun_ a i).params (U.fun_ a i).result (U.fun_ a i).blocks hc hl h0 hT i (U.fun_ a i).blocks.length 0 (by omega)
    have hW := withinB_len (U.nextAt (U.fun_ a i).blocks) (U.fun_ a i).blocks.length 0 (-1)
    have hlen := onL_len (U.withinB (U.nextAt (U.fun_ a i).blocks) (U.fun_ a i).blocks.length 0 (-1)) (U.fun_ a i).blocks.length 0
    obtain ⟨m', k1, k2, k3⟩ := loop11_12 (a.map encF) (encF (U.fun_ a i)) i (onL (U.withinB (U.nextAt (U.fun_ a i).blocks) (U.fun_ a i).blocks.length 0 (-1)) (U.fun_ a i).blocks.length 0) (by omega) ((onL_sorted _ _ _).imp (fun h => by omega)) _ 0 (List.replicate (U.fun_ a i).blocks.length false) (Nat.zero_add _) (fun x hx => by
      rw [List.drop_zero] at hx
      obtain ⟨y, rfl, h1, h2, h3⟩ := (onL_mem _ _ _ _).1 hx
      exact ⟨by omega, by rw [List.length_replicate]; omega, on_false _ _⟩)
    have hm : m' = U.withinB (U.nextAt (U.fun_ a i).blocks) (U.fun_ a i).blocks.length 0 (-1) := on_ext (by rw [k2, List.length_replicate, hW]) (fun x hx => by
      rw [k3 x, List.drop_zero, onL_mem]
      constructor
      · rintro (h | ⟨y, e, h1, h2, h3⟩)
        · exact absurd h (on_false _ _)
        · rw [show x = y by omega]; exact h3
      · intro h
        exact .inr ⟨x, rfl, Nat.zero_le _, by have := on_lt h; omega, h⟩)
    subst hm
    rw [hsort] at w38
    have h00 : on (U.withinB (U.nextAt (U.fun_ a i).blocks) (U.fun_ a i).blocks.length 0 (-1)) 0 := (withinB_on _ _ _ _ _).2 ⟨h0, by omega, by omega, by omega, .refl⟩
    refine turnK (t11_6 a i (U.withinB (U.nextAt (U.fun_ a i).blocks) (U.fun_ a i).blocks.length 0 (-1)) _) ?_
    generalize U.withinB (U.nextAt (U.fun_ a i).blocks) (U.fun_ a i).blocks.length 0 (-1) = m at *
    obtain ⟨b1, b2⟩ := rowBo (m := m) (show 0 < m.length by omega)
    rw [Nat.zero_add] at b1 b2
    unfold on at h00
    rw [List.length_map, decide_eq_true (show (i : Int) < a.length by omega), wrapS hi (by omega), rowF hi, getF hi, b1, b2, h00]
    simp only [encF, rdI, rdL, slOf, List.getD_cons_zero, List.getD_cons_succ, int_goI, reachL_map, take_map, hsort, List.length_map, rep_map]
    exact ⟨⟨by omega, by trivial⟩, ⟨by omega, by omega, by omega⟩, w38, k1, l18, ⟨by decide, by omega, by omega⟩, rfl, ih⟩
theorem wf11 (p : XP) (hp : HandP p) : Wf Try.prog H 11 [.agg (encP p)] [] = some (goB true, [], []) := by
  refine runK (t11 p.funcs (U.out p) _) ⟨wf12, wf13 p hp, ?_⟩
  cases ho : U.out p with
  | true => exact rfl
  | false =>
    unfold U.out at ho
    rw [Bool.or_eq_false_iff] at ho
    obtain ⟨h1, h2⟩ := small_of ho.1
    have hok : U.okProg p.funcs = true := by simpa using ho.2
    exact ⟨loop11_6 p.funcs h1 h2 hok p.funcs.length 0 (by omega), rfl⟩
end Go.Proofs.Ytjgnnjoejlijjaa.E
