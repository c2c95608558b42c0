/- Functions, by what the evaluator asks; the theorems t.. were printed by show.txt, a program of this session. -/
import Derived.Test.Ytnmnaomfohlmcaa09k
set_option linter.unusedVariables false
set_option linter.unusedSimpArgs false
set_option maxRecDepth 100000
namespace Go.Proofs.Ytnmnaomfohlmcaa.E
open Go
def F12 : CallT := fun f args sto => match f, args, sto with
 | 15, [.agg [.sl l]], _ => .is (goB (U.rightR l), [], [])
 | 10, [.agg [.sl l]], _ => .is (.agg [.os 0 0 l.length], [.arr 2 l], [])
 | _, _, _ => .no

def st18 (hs : List Obj) (met : List Bool) (more : List (Nat × AV)) : St := mkS 116 ((2, .pt 0 0 0) :: (5, .os 1 0 met.length) :: more) [.box [.sl (hs.map encO)], .arr 1 (met.map encBo), .dead]
def L18 (m1 m2 : List Bool) (out : List Int) : Nat → St → LT := fun id st => match id with
 | 5 => match st.2 with
   | [.box [.sl h], _, _] => .is (.exit 0) (mkS 116 [(2, .pt 0 0 0), (5, .os 1 0 m1.length)] [.box [.sl h], .arr 1 (m1.map encBo), .dead])
   | _ => .no
 | 11 => match st.2 with
   | [.box [.sl h], _, _] => .is (.exit 2) (mkS 116 [(2, .pt 0 0 0), (5, .os 1 0 m1.length)] [.box [.sl h], .arr 1 (m2.map encBo), .dead])
   | _ => .no
 | 23 => .is (.exit 8) (mkS 116 [(10, .os 2 0 out.length)] [.dead, .dead, .arr 1 (out.map encI)])
 | _ => .no
def F18 : CallT := fun f args sto => match f, args, sto with
 | 15, [.agg [.sl l]], _ => .is (goB (U.rightR l), [], [])
 | _, _, _ => .no
def L18b (m : List Bool) (i j : Nat) : Nat → St → LT := fun id st => match id with
 | 14 => match st.2 with
   | [.box [.sl h], _, _] => .is (.exit 4) (mkS 116 [(2, .pt 0 0 0), (5, .os 1 0 m.length), (7, goI i)] [.box [.sl h], .arr 1 (m.map encBo), .dead])
   | _ => .no
 | 17 => match st.2 with
   | [.box [.sl h], _, _] => .is (.exit 6) (mkS 116 [(2, .pt 0 0 0), (5, .os 1 0 m.length), (7, goI i), (8, goI j)] [.box [.sl h], .arr 1 (m.map encBo), .dead])
   | _ => .no
 | _ => .no

theorem t10 (a : List Obj) (r : AV × List Row × List Nat) : (runT Try.prog H (fun f args sto => CT.of (F0 f args sto))
  (fun id st =>
    LT.is (Ex.exit 0)
      (mkS 35 [(2, AV.pt 1 0 0), (3, AV.pt 2 0 0)]
        [Row.dead, Row.box [AV.nil], Row.box [AV.os 3 0 (List.length a)], Row.arr 2 (List.map encO a)]))
  false 10 [hp a] [] fun q => q = r) = (LoopTo Try.prog H (H 10) 0 (loopOf Try.prog 10 3)
    (mkS 35 [(1, AV.pt 0 0 0), (2, AV.pt 1 0 0), (3, AV.pt 2 0 0), (4, goI 0)]
      [Row.box [AV.sl (List.map encO a)], Row.box [AV.nil], Row.box [AV.os 3 0 0], Row.arr 2 []])
    (Ex.exit 0,
      mkS 35 [(2, AV.pt 1 0 0), (3, AV.pt 2 0 0)]
        [Row.dead, Row.box [AV.nil], Row.box [AV.os 3 0 (List.length a)], Row.arr 2 (List.map encO a)]) ∧
  (AV.agg [AV.os 0 0 (List.length a)], [Row.arr 2 (List.map encO a)], []) = r) := by kernel_rfl
theorem t10_3 (a : List Obj) (b : List Obj) (i : Nat) (r : Ex × St) : (turnT Try.prog H (fun f args sto => CT.of (F0 f args sto)) L0 false (H 10) 0 (loopOf Try.prog 10 3)
  (mkS 35 [(1, AV.pt 0 0 0), (2, AV.pt 1 0 0), (3, AV.pt 2 0 0), (4, goI (↑i : Int))]
    [Row.box [AV.sl (List.map encO a)], Row.box [AV.nil], Row.box [AV.os 3 0 (List.length b)],
      Row.arr 2 (List.map encO b)])
  r) = (TB (decide ((↑i : Int) < (↑(List.length (List.map encO a)) : Int)))
  ((0 ≤ (↑i : Int) ∧
      (List.map encO a)[i]? =
        some [AV.sl (rdL (rowAt (List.map encO a) i) 0), AV.sl (rdL (rowAt (List.map encO a) i) 1)]) ∧
    rowsOk 1 (rdL (rowAt (List.map encO a) i) 0) = true ∧
      (true = true ∧
          (0 < List.length (rdL (rowAt (List.map encO a) i) 0) ∨ 0 = 0) ∧
            0 + List.length (rdL (rowAt (List.map encO a) i) 0) ≤ 1000000) ∧
        (0 ≤ (↑i : Int) ∧
            (List.map encO a)[i]? =
              some [AV.sl (rdL (rowAt (List.map encO a) i) 0), AV.sl (rdL (rowAt (List.map encO a) i) 1)]) ∧
          rowsOk 1 (rdL (rowAt (List.map encO a) i) 1) = true ∧
            (true = true ∧
                (0 < List.length (rdL (rowAt (List.map encO a) i) 1) ∨ 0 = 0) ∧
                  0 + List.length (rdL (rowAt (List.map encO a) i) 1) ≤ 1000000) ∧
              true = true ∧
                (List.length b = List.length (List.map encO b) ∧ List.length b + 1 ≤ 1000000) ∧
                  LoopTo Try.prog H (H 10) 0 (loopOf Try.prog 10 3)
                    (mkS 35
                      [(1, AV.pt 0 0 0), (2, AV.pt 1 0 0), (3, AV.pt 2 0 0),
                        (4, goI (IntKind.wrap IntKind.i64 ((↑i : Int) + 1)))]
                      [Row.box [AV.sl (List.map encO a)], Row.box [AV.nil], Row.box [AV.os 3 0 (List.length b + 1)],
                        Row.arr 2
                          (List.map encO b ++
                            [[AV.sl ([] ++ rdL (rowAt (List.map encO a) i) 0),
                                AV.sl ([] ++ rdL (rowAt (List.map encO a) i) 1)]])])
                    r)
  ((Ex.exit 0,
      mkS 35 [(2, AV.pt 1 0 0), (3, AV.pt 2 0 0)]
        [Row.dead, Row.box [AV.nil], Row.box [AV.os 3 0 (List.length b)], Row.arr 2 (List.map encO b)]) =
    r)) := by kernel_rfl
theorem t12 (a : List Obj) (x : Int) (y : Int) (r : AV × List Row × List Nat) : (runT Try.prog H F12 L0 false 12 [hp a, goI x, goI y] [] fun q => q = r) = (Wf Try.prog H 15 [AV.agg [AV.sl (List.map encO a)]] [] = some (goB (U.rightR (List.map encO a)), [], []) ∧
  TB (!U.rightR (List.map encO a)) ((AV.tup [AV.agg [AV.sl (List.map encO a)], goI 0, goI 1], [], []) = r)
    (TB (decide (x < 0)) ((AV.tup [AV.agg [AV.sl (List.map encO a)], goI 0, goI 1], [], []) = r)
      (TB (decide (x > 8)) ((AV.tup [AV.agg [AV.sl (List.map encO a)], goI 0, goI 1], [], []) = r)
        (TB (decide (y < 0)) ((AV.tup [AV.agg [AV.sl (List.map encO a)], goI 0, goI 1], [], []) = r)
          (TB (decide (y > 8)) ((AV.tup [AV.agg [AV.sl (List.map encO a)], goI 0, goI 1], [], []) = r)
            (Wf Try.prog H 10 [AV.agg [AV.sl (List.map encO a)]] [] =
                some (AV.agg [AV.os 0 0 (List.length (List.map encO a))], [Row.arr 2 (List.map encO a)], []) ∧
              (0 ≤ x ∧ x ≤ x ∧ x ≤ (↑1000000 : Int)) ∧
                (0 ≤ y ∧ y ≤ y ∧ y ≤ (↑1000000 : Int)) ∧
                  true = true ∧
                    (List.length (List.map encO a) = List.length (List.map encO a) ∧
                        List.length (List.map encO a) + 1 ≤ 1000000) ∧
                      (AV.tup
                            [AV.agg [AV.os 0 0 (List.length (List.map encO a) + 1)],
                              goI (↑(List.length (List.map encO a) + 1) : Int), goI 0],
                          [Row.arr 2
                              (List.map encO a ++
                                [[AV.sl (List.replicate (Int.toNat x) [goI 0]),
                                    AV.sl (List.replicate (Int.toNat y) [goI 0])]])],
                          []) =
                        r)))))) := by kernel_rfl
theorem t18 (hs : List Obj) (l : List Int) (m1 : List Bool) (m2 : List Bool) (out : List Int) (r : AV × List Row × List Nat) : (runT Try.prog H F18 (L18 m1 m2 out) false 18 [hp hs, AV.sl (List.map encI l)] [] fun q => q = r) = (Wf Try.prog H 15 [AV.agg [AV.sl (List.map encO hs)]] [] = some (goB (U.rightR (List.map encO hs)), [], []) ∧
  TB (!U.rightR (List.map encO hs)) ((AV.sl [], [], []) = r)
    ((0 ≤ IntKind.wrap IntKind.i64 ((↑(List.length (List.map encO hs)) : Int) + 1) ∧
        IntKind.wrap IntKind.i64 ((↑(List.length (List.map encO hs)) : Int) + 1) ≤
            IntKind.wrap IntKind.i64 ((↑(List.length (List.map encO hs)) : Int) + 1) ∧
          IntKind.wrap IntKind.i64 ((↑(List.length (List.map encO hs)) : Int) + 1) ≤ (↑1000000 : Int)) ∧
      LoopTo Try.prog H (H 18) 0 (loopOf Try.prog 18 5)
          (mkS 116
            [(1, AV.sl (List.map encI l)), (2, AV.pt 0 0 0),
              (5,
                AV.os 1 0
                  (List.length
                    (List.replicate
                      (Int.toNat (IntKind.wrap IntKind.i64 ((↑(List.length (List.map encO hs)) : Int) + 1)))
                      [goB false]))),
              (6, goI 0)]
            [Row.box [AV.sl (List.map encO hs)],
              Row.arr 1
                (List.replicate (Int.toNat (IntKind.wrap IntKind.i64 ((↑(List.length (List.map encO hs)) : Int) + 1)))
                  [goB false]),
              Row.dead])
          (Ex.exit 0,
            mkS 116 [(2, AV.pt 0 0 0), (5, AV.os 1 0 (List.length m1))]
              [Row.box [AV.sl (List.map encO hs)], Row.arr 1 (List.map encBo m1), Row.dead]) ∧
        (iz 0 ≤ 0 ∧ 0 < (↑(List.length m1) : Int) ∧ 0 < List.length (List.map encBo m1)) ∧
          Option.map List.length (List.map encBo m1)[0]? = some 1 ∧
            LoopTo Try.prog H (H 18) 0 (loopOf Try.prog 18 11)
                (mkS 116 [(2, AV.pt 0 0 0), (5, AV.os 1 0 (List.length m1)), (7, goI 0)]
                  [Row.box [AV.sl (List.map encO hs)], Row.arr 1 (List.set (List.map encBo m1) 0 [goB false]),
                    Row.dead])
                (Ex.exit 2,
                  mkS 116 [(2, AV.pt 0 0 0), (5, AV.os 1 0 (List.length m1))]
                    [Row.box [AV.sl (List.map encO hs)], Row.arr 1 (List.map encBo m2), Row.dead]) ∧
              LoopTo Try.prog H (H 18) 0 (loopOf Try.prog 18 23)
                  (mkS 116 [(5, AV.os 1 0 (List.length m1)), (10, AV.os 2 0 0), (11, goI 1)]
                    [Row.dead, Row.arr 1 (List.map encBo m2), Row.arr 1 []])
                  (Ex.exit 8,
                    mkS 116 [(10, AV.os 2 0 (List.length out))] [Row.dead, Row.dead, Row.arr 1 (List.map encI out)]) ∧
                (AV.os 0 0 (List.length out), [Row.arr 1 (List.map encI out)], []) = r)) := by kernel_rfl
theorem t18_5 (hs : List Obj) (l : List Int) (met : List Bool) (i : Nat) (r : Ex × St) : (turnT Try.prog H (fun f args sto => CT.of (F0 f args sto)) L0 false (H 18) 0 (loopOf Try.prog 18 5)
  (mkS 116 [(1, AV.sl (List.map encI l)), (2, AV.pt 0 0 0), (5, AV.os 1 0 (List.length met)), (6, goI (↑i : Int))]
    [Row.box [AV.sl (List.map encO hs)], Row.arr 1 (List.map encBo met), Row.dead])
  r) = (TB (decide ((↑i : Int) < (↑(List.length (List.map encI l)) : Int)))
  ((0 ≤ (↑i : Int) ∧ (List.map encI l)[i]? = some [goI (rdI (rowAt (List.map encI l) i) 0)]) ∧
    TB (decide (rdI (rowAt (List.map encI l) i) 0 ≥ 0))
      ((0 ≤ (↑i : Int) ∧ (List.map encI l)[i]? = some [goI (rdI (rowAt (List.map encI l) i) 0)]) ∧
        TB (decide (rdI (rowAt (List.map encI l) i) 0 < (↑(List.length met) : Int)))
          ((0 ≤ (↑i : Int) ∧ (List.map encI l)[i]? = some [goI (rdI (rowAt (List.map encI l) i) 0)]) ∧
            (0 ≤ rdI (rowAt (List.map encI l) i) 0 ∧
                rdI (rowAt (List.map encI l) i) 0 < (↑(List.length met) : Int) ∧
                  0 + Int.toNat (rdI (rowAt (List.map encI l) i) 0) < List.length (List.map encBo met)) ∧
              Option.map List.length (List.map encBo met)[0 + Int.toNat (rdI (rowAt (List.map encI l) i) 0)]? = some 1 ∧
                LoopTo Try.prog H (H 18) 0 (loopOf Try.prog 18 5)
                  (mkS 116
                    [(1, AV.sl (List.map encI l)), (2, AV.pt 0 0 0), (5, AV.os 1 0 (List.length met)),
                      (6, goI (IntKind.wrap IntKind.i64 ((↑i : Int) + 1)))]
                    [Row.box [AV.sl (List.map encO hs)],
                      Row.arr 1
                        (List.set (List.map encBo met) (0 + Int.toNat (rdI (rowAt (List.map encI l) i) 0)) [goB true]),
                      Row.dead])
                  r)
          (LoopTo Try.prog H (H 18) 0 (loopOf Try.prog 18 5)
            (mkS 116
              [(1, AV.sl (List.map encI l)), (2, AV.pt 0 0 0), (5, AV.os 1 0 (List.length met)),
                (6, goI (IntKind.wrap IntKind.i64 ((↑i : Int) + 1)))]
              [Row.box [AV.sl (List.map encO hs)], Row.arr 1 (List.map encBo met), Row.dead])
            r))
      (LoopTo Try.prog H (H 18) 0 (loopOf Try.prog 18 5)
        (mkS 116
          [(1, AV.sl (List.map encI l)), (2, AV.pt 0 0 0), (5, AV.os 1 0 (List.length met)),
            (6, goI (IntKind.wrap IntKind.i64 ((↑i : Int) + 1)))]
          [Row.box [AV.sl (List.map encO hs)], Row.arr 1 (List.map encBo met), Row.dead])
        r))
  ((Ex.exit 0,
      mkS 116 [(2, AV.pt 0 0 0), (5, AV.os 1 0 (List.length met))]
        [Row.box [AV.sl (List.map encO hs)], Row.arr 1 (List.map encBo met), Row.dead]) =
    r)) := by kernel_rfl
theorem t18_11 (hs : List Obj) (met : List Bool) (m : List Bool) (i : Nat) (r : Ex × St) : (turnT Try.prog H (fun f args sto => CT.of (F0 f args sto)) (L18b m i 0) false (H 18) 0 (loopOf Try.prog 18 11)
  (mkS 116 [(2, AV.pt 0 0 0), (5, AV.os 1 0 (List.length met)), (7, goI (↑i : Int))]
    [Row.box [AV.sl (List.map encO hs)], Row.arr 1 (List.map encBo met), Row.dead])
  r) = (TB (decide ((↑i : Int) < (↑(List.length (List.map encO hs)) : Int)))
  (LoopTo Try.prog H (H 18) 0 (loopOf Try.prog 18 14)
      (mkS 116 [(2, AV.pt 0 0 0), (5, AV.os 1 0 (List.length met)), (7, goI (↑i : Int)), (8, goI 0)]
        [Row.box [AV.sl (List.map encO hs)], Row.arr 1 (List.map encBo met), Row.dead])
      (Ex.exit 4,
        mkS 116 [(2, AV.pt 0 0 0), (5, AV.os 1 0 (List.length m)), (7, goI (↑i : Int))]
          [Row.box [AV.sl (List.map encO hs)], Row.arr 1 (List.map encBo m), Row.dead]) ∧
    LoopTo Try.prog H (H 18) 0 (loopOf Try.prog 18 11)
      (mkS 116 [(2, AV.pt 0 0 0), (5, AV.os 1 0 (List.length m)), (7, goI (IntKind.wrap IntKind.i64 ((↑i : Int) + 1)))]
        [Row.box [AV.sl (List.map encO hs)], Row.arr 1 (List.map encBo m), Row.dead])
      r)
  ((Ex.exit 2,
      mkS 116 [(2, AV.pt 0 0 0), (5, AV.os 1 0 (List.length met))]
        [Row.box [AV.sl (List.map encO hs)], Row.arr 1 (List.map encBo met), Row.dead]) =
    r)) := by kernel_rfl
theorem t18_14 (hs : List Obj) (met : List Bool) (m : List Bool) (i : Nat) (j : Nat) (r : Ex × St) : (turnT Try.prog H (fun f args sto => CT.of (F0 f args sto)) (L18b m i j) false (H 18) 0 (loopOf Try.prog 18 14)
  (mkS 116 [(2, AV.pt 0 0 0), (5, AV.os 1 0 (List.length met)), (7, goI (↑i : Int)), (8, goI (↑j : Int))]
    [Row.box [AV.sl (List.map encO hs)], Row.arr 1 (List.map encBo met), Row.dead])
  r) = (TB (decide ((↑j : Int) < (↑(List.length (List.map encO hs)) : Int)))
  (LoopTo Try.prog H (H 18) 0 (loopOf Try.prog 18 17)
      (mkS 116
        [(2, AV.pt 0 0 0), (5, AV.os 1 0 (List.length met)), (7, goI (↑i : Int)), (8, goI (↑j : Int)), (9, goI 0)]
        [Row.box [AV.sl (List.map encO hs)], Row.arr 1 (List.map encBo met), Row.dead])
      (Ex.exit 6,
        mkS 116 [(2, AV.pt 0 0 0), (5, AV.os 1 0 (List.length m)), (7, goI (↑i : Int)), (8, goI (↑j : Int))]
          [Row.box [AV.sl (List.map encO hs)], Row.arr 1 (List.map encBo m), Row.dead]) ∧
    LoopTo Try.prog H (H 18) 0 (loopOf Try.prog 18 14)
      (mkS 116
        [(2, AV.pt 0 0 0), (5, AV.os 1 0 (List.length m)), (7, goI (↑i : Int)),
          (8, goI (IntKind.wrap IntKind.i64 ((↑j : Int) + 1)))]
        [Row.box [AV.sl (List.map encO hs)], Row.arr 1 (List.map encBo m), Row.dead])
      r)
  ((Ex.exit 4,
      mkS 116 [(2, AV.pt 0 0 0), (5, AV.os 1 0 (List.length met)), (7, goI (↑i : Int))]
        [Row.box [AV.sl (List.map encO hs)], Row.arr 1 (List.map encBo met), Row.dead]) =
    r)) := by kernel_rfl
theorem t18_17 (hs : List Obj) (met : List Bool) (i : Nat) (j : Nat) (k : Nat) (r : Ex × St) : (turnT Try.prog H (fun f args sto => CT.of (F0 f args sto)) L0 false (H 18) 0 (loopOf Try.prog 18 17)
  (mkS 116
    [(2, AV.pt 0 0 0), (5, AV.os 1 0 (List.length met)), (7, goI (↑i : Int)), (8, goI (↑j : Int)), (9, goI (↑k : Int))]
    [Row.box [AV.sl (List.map encO hs)], Row.arr 1 (List.map encBo met), Row.dead])
  r) = ((0 ≤ (↑j : Int) ∧
    (List.map encO hs)[j]? =
      some [AV.sl (rdL (rowAt (List.map encO hs) j) 0), AV.sl (rdL (rowAt (List.map encO hs) j) 1)]) ∧
  TB (decide ((↑k : Int) < (↑(List.length (rdL (rowAt (List.map encO hs) j) 0)) : Int)))
    ((0 ≤ IntKind.wrap IntKind.i64 ((↑j : Int) + 1) ∧
        IntKind.wrap IntKind.i64 ((↑j : Int) + 1) < (↑(List.length met) : Int) ∧
          0 + Int.toNat (IntKind.wrap IntKind.i64 ((↑j : Int) + 1)) < List.length (List.map encBo met)) ∧
      cutAt 1 0 (List.map encBo met)[0 + Int.toNat (IntKind.wrap IntKind.i64 ((↑j : Int) + 1))]? =
          some [goB (rdB (rowAt (List.map encBo met) (0 + Int.toNat (IntKind.wrap IntKind.i64 ((↑j : Int) + 1)))) 0)] ∧
        TB (rdB (rowAt (List.map encBo met) (0 + Int.toNat (IntKind.wrap IntKind.i64 ((↑j : Int) + 1)))) 0)
          ((0 ≤ (↑j : Int) ∧
              (List.map encO hs)[j]? =
                some [AV.sl (rdL (rowAt (List.map encO hs) j) 0), AV.sl (rdL (rowAt (List.map encO hs) j) 1)]) ∧
            (0 ≤ (↑k : Int) ∧
                (rdL (rowAt (List.map encO hs) j) 0)[k]? =
                  some [goI (rdI (rowAt (rdL (rowAt (List.map encO hs) j) 0) k) 0)]) ∧
              TB (decide (rdI (rowAt (rdL (rowAt (List.map encO hs) j) 0) k) 0 > 0))
                ((0 ≤ (↑j : Int) ∧
                    (List.map encO hs)[j]? =
                      some [AV.sl (rdL (rowAt (List.map encO hs) j) 0), AV.sl (rdL (rowAt (List.map encO hs) j) 1)]) ∧
                  (0 ≤ (↑k : Int) ∧
                      (rdL (rowAt (List.map encO hs) j) 0)[k]? =
                        some [goI (rdI (rowAt (rdL (rowAt (List.map encO hs) j) 0) k) 0)]) ∧
                    (0 ≤ rdI (rowAt (rdL (rowAt (List.map encO hs) j) 0) k) 0 ∧
                        rdI (rowAt (rdL (rowAt (List.map encO hs) j) 0) k) 0 < (↑(List.length met) : Int) ∧
                          0 + Int.toNat (rdI (rowAt (rdL (rowAt (List.map encO hs) j) 0) k) 0) <
                            List.length (List.map encBo met)) ∧
                      Option.map List.length
                            (List.map encBo
                                met)[0 + Int.toNat (rdI (rowAt (rdL (rowAt (List.map encO hs) j) 0) k) 0)]? =
                          some 1 ∧
                        LoopTo Try.prog H (H 18) 0 (loopOf Try.prog 18 17)
                          (mkS 116
                            [(2, AV.pt 0 0 0), (5, AV.os 1 0 (List.length met)), (7, goI (↑i : Int)),
                              (8, goI (↑j : Int)), (9, goI (IntKind.wrap IntKind.i64 ((↑k : Int) + 1)))]
                            [Row.box [AV.sl (List.map encO hs)],
                              Row.arr 1
                                (List.set (List.map encBo met)
                                  (0 + Int.toNat (rdI (rowAt (rdL (rowAt (List.map encO hs) j) 0) k) 0)) [goB true]),
                              Row.dead])
                          r)
                (LoopTo Try.prog H (H 18) 0 (loopOf Try.prog 18 17)
                  (mkS 116
                    [(2, AV.pt 0 0 0), (5, AV.os 1 0 (List.length met)), (7, goI (↑i : Int)), (8, goI (↑j : Int)),
                      (9, goI (IntKind.wrap IntKind.i64 ((↑k : Int) + 1)))]
                    [Row.box [AV.sl (List.map encO hs)], Row.arr 1 (List.map encBo met), Row.dead])
                  r))
          ((Ex.exit 6,
              mkS 116 [(2, AV.pt 0 0 0), (5, AV.os 1 0 (List.length met)), (7, goI (↑i : Int)), (8, goI (↑j : Int))]
                [Row.box [AV.sl (List.map encO hs)], Row.arr 1 (List.map encBo met), Row.dead]) =
            r))
    ((Ex.exit 6,
        mkS 116 [(2, AV.pt 0 0 0), (5, AV.os 1 0 (List.length met)), (7, goI (↑i : Int)), (8, goI (↑j : Int))]
          [Row.box [AV.sl (List.map encO hs)], Row.arr 1 (List.map encBo met), Row.dead]) =
      r)) := by kernel_rfl
theorem t18_23 (met : List Bool) (out : List Int) (i : Nat) (r : Ex × St) : (turnT Try.prog H (fun f args sto => CT.of (F0 f args sto)) L0 false (H 18) 0 (loopOf Try.prog 18 23)
  (mkS 116 [(5, AV.os 1 0 (List.length met)), (10, AV.os 2 0 (List.length out)), (11, goI (↑i : Int))]
    [Row.dead, Row.arr 1 (List.map encBo met), Row.arr 1 (List.map encI out)])
  r) = (TB (decide ((↑i : Int) < (↑(List.length met) : Int)))
  ((0 ≤ (↑i : Int) ∧ (↑i : Int) < (↑(List.length met) : Int) ∧ 0 + i < List.length (List.map encBo met)) ∧
    cutAt 1 0 (List.map encBo met)[0 + i]? = some [goB (rdB (rowAt (List.map encBo met) (0 + i)) 0)] ∧
      TB (rdB (rowAt (List.map encBo met) (0 + i)) 0)
        (true = true ∧
          (List.length out = List.length (List.map encI out) ∧ List.length out + 1 ≤ 1000000) ∧
            LoopTo Try.prog H (H 18) 0 (loopOf Try.prog 18 23)
              (mkS 116
                [(5, AV.os 1 0 (List.length met)), (10, AV.os 2 0 (List.length out + 1)),
                  (11, goI (IntKind.wrap IntKind.i64 ((↑i : Int) + 1)))]
                [Row.dead, Row.arr 1 (List.map encBo met), Row.arr 1 (List.map encI out ++ [[goI (↑i : Int)]])])
              r)
        (LoopTo Try.prog H (H 18) 0 (loopOf Try.prog 18 23)
          (mkS 116
            [(5, AV.os 1 0 (List.length met)), (10, AV.os 2 0 (List.length out)),
              (11, goI (IntKind.wrap IntKind.i64 ((↑i : Int) + 1)))]
            [Row.dead, Row.arr 1 (List.map encBo met), Row.arr 1 (List.map encI out)])
          r))
  ((Ex.exit 8, mkS 116 [(10, AV.os 2 0 (List.length out))] [Row.dead, Row.dead, Row.arr 1 (List.map encI out)]) = r)) := by kernel_rfl
theorem loop10_3 (a : List Obj) (hl : a.length < 1000000) (h8 : ∀ o ∈ a, o.refs.length ≤ 1000 ∧ o.ints.length ≤ 1000) : ∀ (d i : Nat), i + d = a.length →
    LoopTo Try.prog H (H 10) 0 (loopOf Try.prog 10 3) (mkS 35 [(1, .pt 0 0 0), (2, .pt 1 0 0), (3, .pt 2 0 0), (4, goI i)] [.box [.sl (a.map encO)], .box [.nil], .box [.os 3 0 (a.take i).length], .arr 2 ((a.take i).map encO)])
      (.exit 0, mkS 35 [(2, .pt 1 0 0), (3, .pt 2 0 0)] [.dead, .box [.nil], .box [.os 3 0 a.length], .arr 2 (a.map encO)])
  | 0, i, hd => by
    refine turnK (t10_3 a (a.take i) i _) ?_
    have elen : (a.map encO).length = a.length := List.length_map _
    rw [elen, decide_eq_false (by omega), List.take_of_length_le (by omega)]
    exact rfl
  | d + 1, i, hd => by
    have hi : i < a.length := by omega
    have ih := loop10_3 a hl h8 d (i + 1) (by omega)
    have e0 : rdL (rowAt (a.map encO) i) 0 = (U.ob a i).refs.map encI := by rw [rowO hi]; rfl
    have e1 : rdL (rowAt (a.map encO) i) 1 = (U.ob a i).ints.map encI := by rw [rowO hi]; rfl
    have et : a.take (i + 1) = a.take i ++ [U.ob a i] := by
      have e2 : U.ob a i = a[i] := by unfold U.ob; rw [List.getD_eq_getElem?_getD, List.getElem?_eq_getElem hi]; rfl
      rw [List.take_add_one, List.getElem?_eq_getElem hi, e2]; rfl
    have h8' := h8 _ (ob_mem hi)
    have hlt : (a.take i).length = i := by rw [List.length_take]; omega
    refine turnK (t10_3 a (a.take i) i _) ?_
    have elen : (a.map encO).length = a.length := List.length_map _
    rw [elen, decide_eq_true (by omega), e0, e1, getO hi, wrapS hi hl]
    have hL : ∀ x : List Int, (x.map encI).length = x.length := fun x => List.length_map _
    refine ⟨⟨by omega, rfl⟩, rowsOk_of (enc := encI) (s := 1) (fun _ => rfl) _, ⟨rfl, .inr rfl, by rw [hL]; omega⟩, ⟨by omega, rfl⟩, rowsOk_of (enc := encI) (s := 1) (fun _ => rfl) _, ⟨rfl, .inr rfl, by rw [hL]; omega⟩, rfl, ⟨by rw [List.length_map], by omega⟩, ?_⟩
    rw [et, List.length_append, List.map_append] at ih
    exact ih
theorem wf10 (a : List Obj) (hl : a.length < 1000000) (h8 : ∀ o ∈ a, o.refs.length ≤ 1000 ∧ o.ints.length ≤ 1000) : Wf Try.prog H 10 [hp a] [] = some (.agg [.os 0 0 a.length], [.arr 2 (a.map encO)], []) :=
  runK (t10 a _) ⟨loop10_3 a hl h8 a.length 0 (by omega), rfl⟩
theorem wf12 (a : List Obj) (x y : Int) (hl : a.length < 999999) (hr : U.right a = true) (hx : U.cnt x = true) (hy : U.cnt y = true) :
    Wf Try.prog H 12 [hp a, goI x, goI y] [] = some (.tup [.agg [.os 0 0 (U.madeR (a.map encO) x y).length], goI ((a.map encO).length + 1), goI 0], [.arr 2 (U.madeR (a.map encO) x y)], []) := by
  refine runK (t12 a x y _) ?_
  have er : U.rightR (a.map encO) = U.right a := by unfold U.rightR; rw [decO_map]
  obtain ⟨x0, x1⟩ := (cnt_iff x).1 hx
  obtain ⟨y0, y1⟩ := (cnt_iff y).1 hy
  have h15 := wf15 a (by omega)
  rw [hr] at h15
  have h10 := wf10 a (by omega) (fun o ho => by have := refs8 hr ho; omega)
  have elen : (a.map encO).length = a.length := List.length_map _
  rw [er, hr]
  refine ⟨h15, ?_⟩
  rw [decide_eq_false (show ¬ x < 0 by omega), decide_eq_false (show ¬ x > 8 by omega), decide_eq_false (show ¬ y < 0 by omega), decide_eq_false (show ¬ y > 8 by omega)]
  refine ⟨by rw [elen]; exact h10, ⟨by omega, by omega, by omega⟩, ⟨by omega, by omega, by omega⟩, rfl, ⟨rfl, by rw [elen]; omega⟩, ?_⟩
  unfold U.madeR
  rw [zerosR, zerosR, List.length_append, show (((a.map encO).length + 1 : Nat) : Int) = (a.map encO).length + 1 from by omega, List.length_singleton]
theorem wf12_no (a : List Obj) (x y : Int) (hl : a.length < 1000000) (h : ¬ (U.cnt x = true ∧ U.cnt y = true ∧ U.right a = true)) :
    Wf Try.prog H 12 [hp a, goI x, goI y] [] = some (.tup [hp a, goI 0, goI 1], [], []) := by
  refine runK (t12 a x y _) ?_
  have er : U.rightR (a.map encO) = U.right a := by unfold U.rightR; rw [decO_map]
  have h15 := wf15 a hl
  rw [er]
  refine ⟨h15, ?_⟩
  cases hr : U.right a with
  | false => exact rfl
  | true =>
    by_cases h1 : x < 0
    · rw [decide_eq_true h1]; exact rfl
    rw [decide_eq_false h1]
    by_cases h2 : x > 8
    · rw [decide_eq_true h2]; exact rfl
    rw [decide_eq_false h2]
    by_cases h3 : y < 0
    · rw [decide_eq_true h3]; exact rfl
    rw [decide_eq_false h3]
    by_cases h4 : y > 8
    · rw [decide_eq_true h4]; exact rfl
    exact absurd ⟨(cnt_iff x).2 (by omega), (cnt_iff y).2 (by omega), hr⟩ h
def on (m : List Bool) (i : Nat) : Prop := m.getD i default = true
theorem on_set {m : List Bool} {i : Nat} (j : Nat) (hi : i < m.length) : on (m.set i true) j ↔ on m j ∨ j = i := by
  unfold on
  rw [getD_set m i j true hi]
  by_cases e : j = i
  · rw [if_pos e]; simp [e]
  · rw [if_neg e]; simp [e]
theorem on_lt {m : List Bool} {i : Nat} (h : on m i) : i < m.length := Decidable.byContradiction fun q => by
  unfold on at h
  rw [List.getD_eq_getElem?_getD, List.getElem?_eq_none (by omega)] at h
  cases h
theorem rowBo {m : List Bool} {i : Nat} (h : i < m.length) : rdB (rowAt (m.map encBo) (0 + i)) 0 = m.getD i default ∧ (m.map encBo)[0 + i]? = some [goB (m.getD i default)] := by
  have e1 : rowAt (m.map encBo) i = encBo (m.getD i default) := rowAt_map h
  have e2 : (m.map encBo)[i]? = some (encBo (m.getD i default)) := rows_map h
  rw [Nat.zero_add, e1, e2]; exact ⟨rfl, rfl⟩
theorem setBo (m : List Bool) (i : Nat) (b : Bool) : (m.map encBo).set (0 + i) [goB b] = (m.set i b).map encBo := by rw [Nat.zero_add]; exact set_map encBo m i b
theorem loop18_5 (hs : List Obj) (l : List Int) (hl : l.length < 1000000) (n : Nat) : ∀ (d i : Nat) (met : List Bool), i + d = l.length → met.length = n + 1 →
    ∃ m, LoopTo Try.prog H (H 18) 0 (loopOf Try.prog 18 5) (mkS 116 [(1, .sl (l.map encI)), (2, .pt 0 0 0), (5, .os 1 0 met.length), (6, goI i)] [.box [.sl (hs.map encO)], .arr 1 (met.map encBo), .dead])
        (.exit 0, mkS 116 [(2, .pt 0 0 0), (5, .os 1 0 m.length)] [.box [.sl (hs.map encO)], .arr 1 (m.map encBo), .dead]) ∧ m.length = n + 1 ∧
      ∀ j, on m j ↔ on met j ∨ ∃ r ∈ l.drop i, 0 ≤ r ∧ r ≤ n ∧ r.toNat = j
  | 0, i, met, hd, hm => by
    refine ⟨met, turnK (t18_5 hs l met i _) ?_, hm, fun j => ?_⟩
    · rw [List.length_map, decide_eq_false (by omega)]; exact rfl
    · rw [List.drop_of_length_le (by omega)]; simp
  | d + 1, i, met, hd, hm => by
    have hi : i < l.length := by omega
    have ed : l.drop i = U.nt l i :: l.drop (i + 1) := drop_cons' l hi
    have e1 : rdI (rowAt (l.map encI) i) 0 = U.nt l i := by rw [rowI hi]; rfl
    have elen : (l.map encI).length = l.length := List.length_map _
    by_cases hv : 0 ≤ U.nt l i ∧ U.nt l i < met.length
    · obtain ⟨m, k1, k2, k3⟩ := loop18_5 hs l hl n d (i + 1) (met.set (U.nt l i).toNat true) (by omega) (by rw [List.length_set]; exact hm)
      refine ⟨m, turnK (t18_5 hs l met i _) ?_, k2, fun j => ?_⟩
      · rw [elen, decide_eq_true (by omega), e1, getI hi, wrapS hi hl, decide_eq_true (show U.nt l i ≥ 0 by omega), decide_eq_true hv.2, setBo]
        obtain ⟨b1, b2⟩ := rowBo (m := met) (show (U.nt l i).toNat < met.length by omega)
        rw [b2]
        rw [List.length_set] at k1
        exact ⟨⟨by omega, rfl⟩, ⟨by omega, rfl⟩, ⟨by omega, rfl⟩, ⟨by omega, by omega, by rw [List.length_map]; omega⟩, rfl, k1⟩
      · rw [k3 j, on_set j (by omega), ed]
        constructor
        · rintro ((h | h) | ⟨r, h1, h2⟩)
          · exact .inl h
          · exact .inr ⟨U.nt l i, by simp, hv.1, by omega, h.symm⟩
          · exact .inr ⟨r, List.mem_cons_of_mem _ h1, h2⟩
        · rintro (h | ⟨r, h1, h2, h3, h4⟩)
          · exact .inl (.inl h)
          · rcases List.mem_cons.1 h1 with rfl | h1
            · exact .inl (.inr h4.symm)
            · exact .inr ⟨r, h1, h2, h3, h4⟩
    · obtain ⟨m, k1, k2, k3⟩ := loop18_5 hs l hl n d (i + 1) met (by omega) hm
      refine ⟨m, turnK (t18_5 hs l met i _) ?_, k2, fun j => ?_⟩
      · rw [elen, decide_eq_true (by omega), e1, getI hi, wrapS hi hl]
        refine ⟨⟨by omega, rfl⟩, ?_⟩
        by_cases h0 : U.nt l i ≥ 0
        · rw [decide_eq_true h0, decide_eq_false (fun q => hv ⟨by omega, q⟩)]
          exact ⟨⟨by omega, rfl⟩, k1⟩
        · rw [decide_eq_false h0]; exact k1
      · rw [k3 j, ed]
        constructor
        · rintro (h | ⟨r, h1, h2⟩)
          · exact .inl h
          · exact .inr ⟨r, List.mem_cons_of_mem _ h1, h2⟩
        · rintro (h | ⟨r, h1, h2, h3, h4⟩)
          · exact .inl h
          · rcases List.mem_cons.1 h1 with rfl | h1
            · exact absurd ⟨h2, by omega⟩ hv
            · exact .inr ⟨r, h1, h2, h3, h4⟩
def rfs (hs : List Obj) (j : Nat) : List Int := (U.ob hs j).refs
theorem rfs_in {hs : List Obj} (hr : U.right hs = true) {j : Nat} (hj : j < hs.length) : (rfs hs j).length ≤ 8 ∧ ∀ r ∈ rfs hs j, 0 ≤ r ∧ r ≤ hs.length := by
  obtain ⟨h1, _, h3⟩ := (badOb_iff _ _).1 ((right_iff hs).1 hr _ (ob_mem hj))
  exact ⟨h1, h3⟩
theorem loop18_17 {hs : List Obj} (hr : U.right hs = true) (hl : hs.length ≤ 1000) (i j : Nat) (hj : j < hs.length) : ∀ (d k : Nat) (met : List Bool), k + d = (rfs hs j).length → met.length = hs.length + 1 →
    ∃ m, LoopTo Try.prog H (H 18) 0 (loopOf Try.prog 18 17) (mkS 116 [(2, .pt 0 0 0), (5, .os 1 0 met.length), (7, goI i), (8, goI j), (9, goI k)] [.box [.sl (hs.map encO)], .arr 1 (met.map encBo), .dead])
        (.exit 6, mkS 116 [(2, .pt 0 0 0), (5, .os 1 0 m.length), (7, goI i), (8, goI j)] [.box [.sl (hs.map encO)], .arr 1 (m.map encBo), .dead]) ∧ m.length = hs.length + 1 ∧
      ∀ x, on m x ↔ on met x ∨ (on met (j + 1) ∧ ∃ r ∈ (rfs hs j).drop k, 0 < r ∧ r.toNat = x)
  | 0, k, met, hd, hm => by
    have e0 : rdL (rowAt (hs.map encO) j) 0 = (rfs hs j).map encI := by rw [rowO hj]; rfl
    refine ⟨met, turnK (t18_17 hs met i j k _) ?_, hm, fun x => ?_⟩
    · rw [getO hj, e0, List.length_map, decide_eq_false (by omega)]; exact ⟨⟨by omega, by rw [rowO hj]; rfl⟩, rfl⟩
    · rw [List.drop_of_length_le (by omega)]; simp
  | d + 1, k, met, hd, hm => by
    have hk : k < (rfs hs j).length := by omega
    obtain ⟨h8, hin⟩ := rfs_in hr hj
    have ed : (rfs hs j).drop k = U.nt (rfs hs j) k :: (rfs hs j).drop (k + 1) := drop_cons' _ hk
    have e0 : rdL (rowAt (hs.map encO) j) 0 = (rfs hs j).map encI := by rw [rowO hj]; rfl
    have e1 : rdI (rowAt ((rfs hs j).map encI) k) 0 = U.nt (rfs hs j) k := by rw [rowI hk]; rfl
    have eg : (hs.map encO)[j]? = some [.sl ((rfs hs j).map encI), .sl (rdL (rowAt (hs.map encO) j) 1)] := by rw [getO hj, rowO hj]; rfl
    have elen : ((rfs hs j).map encI).length = (rfs hs j).length := List.length_map _
    have hin' := hin (U.nt (rfs hs j) k) (getD_mem hk)
    obtain ⟨b1, b2⟩ := rowBo (m := met) (show j + 1 < met.length by omega)
    cases hon : met.getD (j + 1) default with
    | false =>
      refine ⟨met, turnK (t18_17 hs met i j k _) ?_, hm, fun x => ?_⟩
      · rw [e0, eg, elen, decide_eq_true (by omega), wrapS hj (by omega), Int.toNat_natCast, b1, b2, hon]
        exact ⟨⟨by omega, rfl⟩, ⟨by omega, by omega, by rw [List.length_map]; omega⟩, rfl, rfl⟩
      · constructor
        · exact .inl
        · rintro (h | ⟨h, _⟩)
          · exact h
          · unfold on at h; rw [hon] at h; cases h
    | true =>
      by_cases h0 : U.nt (rfs hs j) k > 0
      · obtain ⟨m, k1, k2, k3⟩ := loop18_17 hr hl i j hj d (k + 1) (met.set (U.nt (rfs hs j) k).toNat true) (by omega) (by rw [List.length_set]; exact hm)
        refine ⟨m, turnK (t18_17 hs met i j k _) ?_, k2, fun x => ?_⟩
        · rw [e0, eg, elen, decide_eq_true (by omega), wrapS hj (by omega), Int.toNat_natCast, b1, b2, hon, e1, getI hk, decide_eq_true h0, wrapS hk (by omega), setBo]
          obtain ⟨c1, c2⟩ := rowBo (m := met) (show (U.nt (rfs hs j) k).toNat < met.length by omega)
          rw [c2]
          rw [List.length_set] at k1
          exact ⟨⟨by omega, rfl⟩, ⟨by omega, by omega, by rw [List.length_map]; omega⟩, rfl, ⟨by omega, rfl⟩, ⟨by omega, rfl⟩, ⟨by omega, rfl⟩, ⟨by omega, rfl⟩, ⟨by omega, by omega, by rw [List.length_map]; omega⟩, rfl, k1⟩
        · rw [k3 x, on_set x (by omega), on_set (j + 1) (by omega), ed]
          constructor
          · rintro ((h | h) | ⟨_, r, h1, h2⟩)
            · exact .inl h
            · exact .inr ⟨hon, U.nt (rfs hs j) k, by simp, h0, h.symm⟩
            · exact .inr ⟨hon, r, List.mem_cons_of_mem _ h1, h2⟩
          · rintro (h | ⟨_, r, h1, h2, h4⟩)
            · exact .inl (.inl h)
            · rcases List.mem_cons.1 h1 with rfl | h1
              · exact .inl (.inr h4.symm)
              · exact .inr ⟨.inl hon, r, h1, h2, h4⟩
      · obtain ⟨m, k1, k2, k3⟩ := loop18_17 hr hl i j hj d (k + 1) met (by omega) hm
        refine ⟨m, turnK (t18_17 hs met i j k _) ?_, k2, fun x => ?_⟩
        · rw [e0, eg, elen, decide_eq_true (by omega), wrapS hj (by omega), Int.toNat_natCast, b1, b2, hon, e1, getI hk, decide_eq_false h0, wrapS hk (by omega)]
          exact ⟨⟨by omega, rfl⟩, ⟨by omega, by omega, by rw [List.length_map]; omega⟩, rfl, ⟨by omega, rfl⟩, ⟨by omega, rfl⟩, k1⟩
        · rw [k3 x, ed]
          constructor
          · rintro (h | ⟨h', r, h1, h2⟩)
            · exact .inl h
            · exact .inr ⟨h', r, List.mem_cons_of_mem _ h1, h2⟩
          · rintro (h | ⟨h', r, h1, h2, h4⟩)
            · exact .inl h
            · rcases List.mem_cons.1 h1 with rfl | h1
              · exact absurd h2 h0
              · exact .inr ⟨h', r, h1, h2, h4⟩
/-- What is on leads on. -/
def ClosedM (hs : List Obj) (S : Nat → Prop) : Prop := ∀ j, j < hs.length → S (j + 1) → ∀ r ∈ rfs hs j, 0 < r → S r.toNat
theorem loop18_14 {hs : List Obj} (hr : U.right hs = true) (hl : hs.length ≤ 1000) (i : Nat) : ∀ (d j : Nat) (met : List Bool), j + d = hs.length → met.length = hs.length + 1 →
    ∃ m, LoopTo Try.prog H (H 18) 0 (loopOf Try.prog 18 14) (mkS 116 [(2, .pt 0 0 0), (5, .os 1 0 met.length), (7, goI i), (8, goI j)] [.box [.sl (hs.map encO)], .arr 1 (met.map encBo), .dead])
        (.exit 4, mkS 116 [(2, .pt 0 0 0), (5, .os 1 0 m.length), (7, goI i)] [.box [.sl (hs.map encO)], .arr 1 (m.map encBo), .dead]) ∧ m.length = hs.length + 1 ∧
      (∀ x, on met x → on m x) ∧ (∀ j', j ≤ j' → j' < hs.length → on met (j' + 1) → ∀ r ∈ rfs hs j', 0 < r → on m r.toNat) ∧
      ∀ S, ClosedM hs S → (∀ x, on met x → S x) → ∀ x, on m x → S x
  | 0, j, met, hd, hm => by
    have elen : (hs.map encO).length = hs.length := List.length_map _
    refine ⟨met, turnK (t18_14 hs met met i j _) ?_, hm, fun x h => h, fun j' h1 h2 => by omega, fun S _ h => h⟩
    rw [elen, decide_eq_false (by omega)]; exact rfl
  | d + 1, j, met, hd, hm => by
    have elen : (hs.map encO).length = hs.length := List.length_map _
    have hj : j < hs.length := by omega
    obtain ⟨m1, k1, k2, k3⟩ := loop18_17 hr hl i j hj (rfs hs j).length 0 met (by omega) hm
    obtain ⟨m, q1, q2, q3, q4, q5⟩ := loop18_14 hr hl i d (j + 1) m1 (by omega) k2
    rw [List.drop_zero] at k3
    refine ⟨m, turnK (t18_14 hs met m1 i j _) ?_, q2, fun x h => q3 x ((k3 x).2 (.inl h)), fun j' h1 h2 hon r hr' h0 => ?_, fun S hS h => q5 S hS (fun x hx => ?_)⟩
    · rw [elen, decide_eq_true (by omega), wrapS hj (by omega)]
      exact ⟨k1, q1⟩
    · by_cases e : j' = j
      · subst e
        exact q3 _ ((k3 _).2 (.inr ⟨hon, r, hr', h0, rfl⟩))
      · exact q4 j' (by omega) h2 ((k3 _).2 (.inl hon)) r hr' h0
    · rcases (k3 x).1 hx with hx | ⟨hon, r, hr', h0, rfl⟩
      · exact h x hx
      · exact hS j hj (h _ hon) r hr' h0
def cntT (m : List Bool) : Nat := m.count true
theorem cnt_mono : ∀ (a b : List Bool), a.length = b.length → (∀ x, on a x → on b x) → cntT a ≤ cntT b ∧ (cntT a = cntT b → a = b)
  | [], [], _, _ => ⟨Nat.le_refl _, fun _ => rfl⟩
  | [], _ :: _, h, _ => by simp at h
  | _ :: _, [], h, _ => by simp at h
  | p :: a, q :: b, h, hm => by
    obtain ⟨i1, i2⟩ := cnt_mono a b (by simpa using h) (fun x hx => hm (x + 1) hx)
    have h0 : p = true → q = true := fun e => hm 0 e
    unfold cntT at *
    cases p <;> cases q
    · simp only [List.count_cons]; simp; exact ⟨i1, fun e => i2 e⟩
    · simp only [List.count_cons]; simp; exact ⟨by omega, by omega⟩
    · exact absurd (h0 rfl) (by simp)
    · simp only [List.count_cons]; simp; exact ⟨i1, fun e => i2 e⟩
theorem cnt_all {m : List Bool} {n : Nat} (hm : m.length = n + 1) (h0 : ¬ on m 0) (h : n ≤ cntT m) : ∀ x, 1 ≤ x → x ≤ n → on m x := by
  cases m with
  | nil => simp at hm
  | cons p t =>
    have hp : p = false := by
      cases p with
      | false => rfl
      | true => exact absurd rfl h0
    subst hp
    have ht : t.length = n := by simpa using hm
    have hc : t.count true = t.length := by
      have h1 : (false :: t).count true = t.count true := by simp [List.count_cons]
      have h2 := List.count_le_length (a := true) (l := t)
      unfold cntT at h
      omega
    have hall := List.count_eq_length.1 hc
    intro x h1 h2
    obtain ⟨y, rfl⟩ : ∃ y, x = y + 1 := ⟨x - 1, by omega⟩
    show t.getD y default = true
    exact (hall _ (getD_mem (show y < t.length by omega))).symm
theorem loop18_11 {hs : List Obj} (hr : U.right hs = true) (hl : hs.length ≤ 1000) : ∀ (d i : Nat) (met : List Bool), i + d = hs.length → met.length = hs.length + 1 → ¬ on met 0 → (ClosedM hs (on met) ∨ hs.length ≤ cntT met + d) →
    ∃ m, LoopTo Try.prog H (H 18) 0 (loopOf Try.prog 18 11) (mkS 116 [(2, .pt 0 0 0), (5, .os 1 0 met.length), (7, goI i)] [.box [.sl (hs.map encO)], .arr 1 (met.map encBo), .dead])
        (.exit 2, mkS 116 [(2, .pt 0 0 0), (5, .os 1 0 m.length)] [.box [.sl (hs.map encO)], .arr 1 (m.map encBo), .dead]) ∧ m.length = hs.length + 1 ∧
      (∀ x, on met x → on m x) ∧ ClosedM hs (on m) ∧ ¬ on m 0 ∧ ∀ S, ClosedM hs S → (∀ x, on met x → S x) → ∀ x, on m x → S x
  | 0, i, met, hd, hm, h0, hc => by
    have elen : (hs.map encO).length = hs.length := List.length_map _
    refine ⟨met, turnK (t18_11 hs met met i _) ?_, hm, fun x h => h, ?_, h0, fun S _ h => h⟩
    · rw [elen, decide_eq_false (by omega)]; exact rfl
    · rcases hc with hc | hc
      · exact hc
      · intro j hj _ r hr' hp
        have := (rfs_in hr hj).2 r hr'
        exact cnt_all hm h0 (by omega) _ (by omega) (by omega)
  | d + 1, i, met, hd, hm, h0, hc => by
    have elen : (hs.map encO).length = hs.length := List.length_map _
    obtain ⟨m1, k1, k2, k3, k4, k5⟩ := loop18_14 hr hl i hs.length 0 met (by omega) hm
    have h01 : ¬ on m1 0 := fun q => (k5 (fun x => x ≠ 0) (fun j hj _ r hr' hp => by omega) (fun x hx e => h0 (e ▸ hx)) 0 q) rfl
    have hc1 : ClosedM hs (on m1) ∨ hs.length ≤ cntT m1 + d := by
      obtain ⟨c1, c2⟩ := cnt_mono met m1 (by omega) k3
      by_cases e : cntT met = cntT m1
      · have e1 := c2 e
        left
        intro j hj hon r hr' hp
        exact k4 j (Nat.zero_le _) hj (by rw [e1]; exact hon) r hr' hp
      · rcases hc with hc | hc
        · exfalso
          have : ∀ x, on m1 x → on met x := k5 (on met) hc (fun x h => h)
          obtain ⟨c3, _⟩ := cnt_mono m1 met (by omega) this
          omega
        · right; omega
    obtain ⟨m, q1, q2, q3, q4, q5, q6⟩ := loop18_11 hr hl d (i + 1) m1 (by omega) k2 h01 hc1
    refine ⟨m, turnK (t18_11 hs met m1 i _) ?_, q2, fun x h => q3 x (k3 x h), q4, q5, fun S hS h => q6 S hS (k5 S hS h)⟩
    rw [elen, decide_eq_true (by omega), wrapS (show i < hs.length by omega) (by omega)]
    exact ⟨k1, q1⟩
/-- The numbers that are on, from i on. -/
def onL (m : List Bool) : Nat → Nat → List Int
  | 0, _ => []
  | d + 1, i => if m.getD i default then (i : Int) :: onL m d (i + 1) else onL m d (i + 1)
theorem onL_mem (m : List Bool) : ∀ (d i : Nat) (x : Int), x ∈ onL m d i ↔ ∃ y : Nat, x = y ∧ i ≤ y ∧ y < i + d ∧ on m y
  | 0, i, x => by simp [onL]; omega
  | d + 1, i, x => by
    have ih := onL_mem m d (i + 1) x
    unfold onL
    by_cases h : m.getD i default = true
    · rw [if_pos h, List.mem_cons, ih]
      constructor
      · rintro (rfl | ⟨y, h1, h2, h3, h4⟩)
        · exact ⟨i, rfl, Nat.le_refl _, by omega, h⟩
        · exact ⟨y, h1, by omega, by omega, h4⟩
      · rintro ⟨y, h1, h2, h3, h4⟩
        by_cases e : y = i
        · left; omega
        · exact .inr ⟨y, h1, by omega, by omega, h4⟩
    · rw [if_neg h, ih]
      constructor
      · rintro ⟨y, h1, h2, h3, h4⟩
        exact ⟨y, h1, by omega, by omega, h4⟩
      · rintro ⟨y, h1, h2, h3, h4⟩
        by_cases e : y = i
        · subst e; exact absurd h4 h
        · exact ⟨y, h1, by omega, by omega, h4⟩
theorem onL_sorted (m : List Bool) : ∀ (d i : Nat), (onL m d i).Pairwise (· < ·)
  | 0, i => List.Pairwise.nil
  | d + 1, i => by
    unfold onL
    split
    · refine List.pairwise_cons.2 ⟨fun x hx => ?_, onL_sorted m d (i + 1)⟩
      obtain ⟨y, rfl, h1, _⟩ := (onL_mem m d (i + 1) x).1 hx
      omega
    · exact onL_sorted m d (i + 1)
theorem onL_len (m : List Bool) : ∀ (d i : Nat), (onL m d i).length ≤ d
  | 0, i => Nat.le_refl _
  | d + 1, i => by
    have := onL_len m d (i + 1)
    unfold onL
    split
    · rw [List.length_cons]; omega
    · omega
theorem loop18_23 (m : List Bool) (hm : m.length ≤ 2000) : ∀ (d i : Nat) (out : List Int), i + d = m.length → out.length ≤ i →
    LoopTo Try.prog H (H 18) 0 (loopOf Try.prog 18 23) (mkS 116 [(5, .os 1 0 m.length), (10, .os 2 0 out.length), (11, goI i)] [.dead, .arr 1 (m.map encBo), .arr 1 (out.map encI)])
      (.exit 8, mkS 116 [(10, .os 2 0 (out ++ onL m d i).length)] [.dead, .dead, .arr 1 ((out ++ onL m d i).map encI)])
  | 0, i, out, hd, ho => by
    refine turnK (t18_23 m out i _) ?_
    rw [decide_eq_false (by omega)]
    unfold onL
    rw [List.append_nil]
    exact rfl
  | d + 1, i, out, hd, ho => by
    have hi : i < m.length := by omega
    obtain ⟨b1, b2⟩ := rowBo hi
    refine turnK (t18_23 m out i _) ?_
    rw [decide_eq_true (by omega), b1, b2, wrapS hi (by omega)]
    refine ⟨⟨by omega, by omega, by rw [List.length_map]; omega⟩, rfl, ?_⟩
    unfold onL
    cases h : m.getD i default with
    | true =>
      rw [if_pos rfl]
      have ih := loop18_23 m hm d (i + 1) (out ++ [(i : Int)]) (by omega) (by rw [List.length_append, List.length_singleton]; omega)
      rw [List.append_assoc, show (out ++ [(i : Int)]).length = out.length + 1 from List.length_append, List.map_append] at ih
      exact ⟨rfl, ⟨by rw [List.length_map], by omega⟩, ih⟩
    | false =>
      rw [if_neg (by simp)]
      exact loop18_23 m hm d (i + 1) out (by omega) (by omega)
theorem on_false (n x : Nat) : ¬ on (List.replicate n false) x := by
  unfold on
  rw [List.getD_eq_getElem?_getD, List.getElem?_replicate]
  split <;> simp
theorem isort_id {l : List Int} (h : l.Pairwise (· < ·)) : U.isort l = l :=
  sorted_unique (isort_perm l) (isort_sorted l) (h.imp (fun h => by omega))
theorem wf18 {hs : List Obj} (hr : U.right hs = true) (hl : hs.length ≤ 1000) (l : List Int) (hll : l.length ≤ 1000) :
    Wf Try.prog H 18 [hp hs, .sl (l.map encI)] [] = some (.os 0 0 (U.reach hs l).length, [.arr 1 ((U.reach hs l).map encI)], []) := by
  obtain ⟨m1, k1, k2, k3⟩ := loop18_5 hs l (by omega) hs.length l.length 0 (List.replicate (hs.length + 1) false) (by omega) (by simp)
  rw [List.drop_zero] at k3
  have s0 : ∀ x, on (m1.set 0 false) x ↔ on m1 x ∧ x ≠ 0 := fun x => by
    unfold on
    rw [getD_set m1 0 x false (by omega)]
    by_cases e : x = 0
    · rw [if_pos e]; simp [e]
    · rw [if_neg e]; simp [e]
  obtain ⟨m2, q1, q2, q3, q4, q5, q6⟩ := loop18_11 hr hl hs.length 0 (m1.set 0 false) (by omega) (by rw [List.length_set]; exact k2) (fun q => ((s0 0).1 q).2 rfl) (.inr (by omega))
  have h23 := loop18_23 m2 (by omega) hs.length 1 [] (by omega) (by simp)
  rw [List.nil_append] at h23
  have hb : BfsTo hs [] l (onL m2 hs.length 1) := by
    refine ⟨fun x hx => ?_, (onL_sorted m2 _ _).imp (fun h => by omega), fun x hx => (by cases hx), fun x hx hv => ?_, fun x hx _ r hr' hrv => ?_, fun S s1 s2 s3 x hx => ?_⟩
    · obtain ⟨y, rfl, h1, h2, _⟩ := (onL_mem _ _ _ _).1 hx
      exact ⟨by omega, by omega⟩
    · obtain ⟨v1, v2⟩ := hv
      refine (onL_mem _ _ _ _).2 ⟨x.toNat, by omega, by omega, by omega, q3 _ ((s0 _).2 ⟨(k3 _).2 (.inr ⟨x, hx, by omega, v2, rfl⟩), by omega⟩)⟩
    · obtain ⟨y, rfl, h1, h2, hon⟩ := (onL_mem _ _ _ _).1 hx
      obtain ⟨v1, v2⟩ := hrv
      obtain ⟨j, rfl⟩ : ∃ j, y = j + 1 := ⟨y - 1, by omega⟩
      unfold U.refsAt at hr'
      rw [show (((j + 1 : Nat) : Int) - 1).toNat = j by omega] at hr'
      exact (onL_mem _ _ _ _).2 ⟨r.toNat, by omega, by omega, by omega, q4 j (by omega) hon r hr' (by omega)⟩
    · obtain ⟨y, rfl, h1, h2, hon⟩ := (onL_mem _ _ _ _).1 hx
      refine q6 (fun i => S (i : Int)) (fun j hj hS r hr' hp => ?_) (fun i hi => ?_) y hon
      · have hin := (rfs_in hr hj).2 r hr'
        have e1 : ((r.toNat : Nat) : Int) = r := by omega
        show S ((r.toNat : Nat) : Int)
        rw [e1]
        refine s3 ((j + 1 : Nat) : Int) ⟨by omega, by omega⟩ hS r ?_ ⟨by omega, hin.2⟩
        unfold U.refsAt
        rw [show (((j + 1 : Nat) : Int) - 1).toNat = j by omega]
        exact hr'
      · obtain ⟨h3, h4⟩ := (s0 i).1 hi
        rcases (k3 i).1 h3 with h5 | ⟨r, h5, h6, h7, rfl⟩
        · exact absurd h5 (on_false _ _)
        · have e1 : ((r.toNat : Nat) : Int) = r := by omega
          show S ((r.toNat : Nat) : Int)
          rw [e1]
          exact s2 r h5 ⟨by omega, h7⟩
  have e := reach_eq hb
  rw [isort_id (onL_sorted m2 _ _)] at e
  rw [e] at h23
  refine runK (t18 hs l m1 m2 (U.reach hs l) _) ?_
  have h15 := wf15 hs (by omega)
  have er : U.rightR (hs.map encO) = U.right hs := by unfold U.rightR; rw [decO_map]
  have ew : IntKind.i64.wrap (((hs.map encO).length : Int) + 1) = ((hs.length + 1 : Nat) : Int) := by rw [List.length_map, wrapS (Nat.lt_succ_self _) (by omega)]
  rw [List.map_replicate, List.length_replicate] at k1
  rw [List.length_set] at q1
  have b2 : (m1.map encBo)[0]? = some [goB (m1.getD 0 default)] := rows_map (show 0 < m1.length by omega)
  have es : (m1.map encBo).set 0 [goB false] = (m1.set 0 false).map encBo := set_map encBo m1 0 false
  rw [q2, ← k2] at h23 q1
  rw [er, hr, ew, Int.toNat_natCast, b2, es, List.length_replicate]
  refine ⟨by rw [← hr]; exact h15, ⟨by omega, by omega, by omega⟩, k1, ⟨by decide, by omega, by rw [List.length_map]; omega⟩, rfl, q1, h23, rfl⟩
theorem wf18_no {hs : List Obj} (hr : U.right hs = false) (hl : hs.length < 1000000) (l : List Int) : Wf Try.prog H 18 [hp hs, .sl (l.map encI)] [] = some (.sl [], [], []) := by
  refine runK (t18 hs l [] [] [] _) ?_
  have h15 := wf15 hs hl
  have er : U.rightR (hs.map encO) = U.right hs := by unfold U.rightR; rw [decO_map]
  rw [er, hr]
  exact ⟨by rw [← hr]; exact h15, rfl⟩
end Go.Proofs.Ytnmnaomfohlmcaa.E
