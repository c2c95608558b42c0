/- Functions, by what the evaluator asks; the theorems t.. were printed by show.txt, a program of this session. -/
import Derived.Test.YtdnekkkpngnmkaaDoorB3
import Derived.Test.YtdnekkkpngnmkaaDoorL2
set_option linter.unusedVariables false
set_option linter.unusedSimpArgs false
set_option maxRecDepth 100000
namespace Go.Proofs.YtdnekkkpngnmkaaDoor.E
open Go
def encY (n : Int) : List AV := [goY n]
def encPl (x : Int × Int) : List AV := [goI x.1, goI x.2]
def F6 (o : Bool) (wb wa wo wn : List Int) (sd : Bool) (d : Int) (s : Bool) (us : List Int) : CallT := fun f args sto => match f, args with
 | 9, _ => .is (goB true, [], [])
 | 10, _ => .is (goB o, [], [])
 | 27, [.agg [_, _, _, _, .sl b], .v (.int _ n)] => .is (.sl (U.nextR b n), [], [])
 | 11, _ => .is (.sl (wb.map encU), [], [])
 | 15, _ => .is (.sl (wa.map encU), [], [])
 | 29, _ => .is (goB true, [], [])
 | 12, _ => .by sd (.is (.tup [goI d, goB true], [], [])) (.is (.tup [goI 0, goB false], [], []))
 | 17, _ => .by s (.is (.os 0 0 us.length, [.arr 1 (us.map encI)], [])) (.is (.nil, [], []))
 | 30, _ => .is (.sl (wo.map encU), [], [])
 | 31, _ => .is (.sl (wn.map encU), [], [])
 | _, _ => .no
def L6 (pk : List Int) (n : Nat) (w : List (Int × Int)) (b : Int) (step : Nat) : Nat → St → LT := fun id st => match id, st.2 with
 | 6, _ => .is (.exit 0) (mkS 152 [] [.dead, .dead, .dead, .dead])
 | 12, [x, y, _, _] => .is (.exit 2) (mkS 152 [(1, .sl (pk.map encY)), (2, .pt 0 0 0), (5, goI n), (6, .pt 1 0 0), (7, .os 3 0 w.length)] [x, y, .dead, .arr 2 (w.map encPl)])
 | 15, [x, y, _, _] => .is (.exit 4) (mkS 152 [(1, .sl (pk.map encY)), (2, .pt 0 0 0), (5, goI n), (6, .pt 1 0 0), (7, .os 3 0 w.length), (8, goI b), (9, goI step)] [x, y, .dead, .arr 2 (w.map encPl)])
 | 23, [x, _, _, _] => .is (.exit 6) (mkS 152 [(1, .sl (pk.map encY)), (2, .pt 0 0 0), (5, goI n)] [x, .dead, .dead, .dead])
 | _, _ => .no
set_option maxHeartbeats 4000000

theorem tw6 (a : List XF) (pk : List Int) (o : Bool) (r : AV × List Row × List Nat) : (runT Tryd.prog H (F6 o [] [] [] [] false 0 false []) (L6 pk 0 [] 0 0) false 6
 [AV.agg [AV.sl (List.map encF a)], AV.sl (List.map encY pk)] [] fun q => q = r) = (Wf Tryd.prog H 9 [] [] = some (goB true, [], []) ∧
 Wf Tryd.prog H 10 [AV.agg [AV.sl (List.map encF a)]] [] = some (goB o, [], []) ∧
 TB o ((goB true, [], []) = r)
 (TB (decide ((↑(List.length (List.map encY pk)) : Int) > 30)) ((goB true, [], []) = r)
 (LoopTo Tryd.prog H (H 6) 0 (loopOf Tryd.prog 6 6)
 (mkS 152 [(1, AV.sl (List.map encY pk)), (2, AV.pt 0 0 0), (5, goI 0)]
 [Row.box [AV.sl (List.map encF a)], Row.dead, Row.dead, Row.dead])
 (Ex.exit 0, mkS 152 [] [Row.dead, Row.dead, Row.dead, Row.dead]) ∧
 (goB true, [], []) = r))) := by kernel_rfl
theorem tw6_6 (a : List XF) (pk : List Int) (n : Nat) (w : List (Int × Int)) (r : Ex × St) : (turnT Tryd.prog H (F6 false [] [] [] [] false 0 false []) (L6 pk n w 0 0) false (H 6) 0 (loopOf Tryd.prog 6 6)
 (mkS 152 [(1, AV.sl (List.map encY pk)), (2, AV.pt 0 0 0), (5, goI (↑n : Int))]
 [Row.box [AV.sl (List.map encF a)], Row.dead, Row.dead, Row.dead])
 r) = (TB (decide ((↑n : Int) < (↑(List.length (List.map encF a)) : Int)))
 ((0 ≤ (↑n : Int) ∧
 (List.map encF a)[n]? =
 some
 [AV.sl (rdL (rowAt (List.map encF a) n) 0), AV.sl (rdL (rowAt (List.map encF a) n) 1),
 goI (rdI (rowAt (List.map encF a) n) 2), goI (rdI (rowAt (List.map encF a) n) 3),
 AV.sl (rdL (rowAt (List.map encF a) n) 4)]) ∧
 LoopTo Tryd.prog H (H 6) 0 (loopOf Tryd.prog 6 12)
 (mkS 152
 [(1, AV.sl (List.map encY pk)), (2, AV.pt 0 0 0), (5, goI (↑n : Int)), (6, AV.pt 1 0 0), (7, AV.os 3 0 0),
 (8, goI 0), (9, goI 0)]
 [Row.box [AV.sl (List.map encF a)],
 Row.box
 [AV.sl (rdL (rowAt (List.map encF a) n) 0), AV.sl (rdL (rowAt (List.map encF a) n) 1),
 goI (rdI (rowAt (List.map encF a) n) 2), goI (rdI (rowAt (List.map encF a) n) 3),
 AV.sl (rdL (rowAt (List.map encF a) n) 4)],
 Row.dead, Row.arr 2 []])
 (Ex.exit 2,
 mkS 152
 [(1, AV.sl (List.map encY pk)), (2, AV.pt 0 0 0), (5, goI (↑n : Int)), (6, AV.pt 1 0 0),
 (7, AV.os 3 0 (List.length w))]
 [Row.box [AV.sl (List.map encF a)],
 Row.box
 [AV.sl (rdL (rowAt (List.map encF a) n) 0), AV.sl (rdL (rowAt (List.map encF a) n) 1),
 goI (rdI (rowAt (List.map encF a) n) 2), goI (rdI (rowAt (List.map encF a) n) 3),
 AV.sl (rdL (rowAt (List.map encF a) n) 4)],
 Row.dead, Row.arr 2 (List.map encPl w)]) ∧
 LoopTo Tryd.prog H (H 6) 0 (loopOf Tryd.prog 6 23)
 (mkS 152
 [(1, AV.sl (List.map encY pk)), (2, AV.pt 0 0 0), (5, goI (↑n : Int)), (6, AV.pt 1 0 0),
 (7, AV.os 3 0 (List.length w)), (12, AV.sl []),
 (13, goI (IntKind.wrap IntKind.i64 ((↑(List.length w) : Int) - 1)))]
 [Row.box [AV.sl (List.map encF a)],
 Row.box
 [AV.sl (rdL (rowAt (List.map encF a) n) 0), AV.sl (rdL (rowAt (List.map encF a) n) 1),
 goI (rdI (rowAt (List.map encF a) n) 2), goI (rdI (rowAt (List.map encF a) n) 3),
 AV.sl (rdL (rowAt (List.map encF a) n) 4)],
 Row.dead, Row.arr 2 (List.map encPl w)])
 (Ex.exit 6,
 mkS 152 [(1, AV.sl (List.map encY pk)), (2, AV.pt 0 0 0), (5, goI (↑n : Int))]
 [Row.box [AV.sl (List.map encF a)], Row.dead, Row.dead, Row.dead]) ∧
 LoopTo Tryd.prog H (H 6) 0 (loopOf Tryd.prog 6 6)
 (mkS 152
 [(1, AV.sl (List.map encY pk)), (2, AV.pt 0 0 0), (5, goI (IntKind.wrap IntKind.i64 ((↑n : Int) + 1)))]
 [Row.box [AV.sl (List.map encF a)], Row.dead, Row.dead, Row.dead])
 r)
 ((Ex.exit 0, mkS 152 [] [Row.dead, Row.dead, Row.dead, Row.dead]) = r)) := by kernel_rfl
theorem tw6_12 (X : List (List AV)) (ks : List (List AV)) (bs : List (List AV)) (p : Int) (q : Int) (bl : List XB) (pk : List Int) (n : Nat) (w : List (Int × Int)) (w2 : List (Int × Int)) (b : Int) (step : Nat) (r : Ex × St) : (turnT Tryd.prog H (F6 false [] [] [] [] false 0 false []) (L6 pk n w2 b step) false (H 6) 0 (loopOf Tryd.prog 6 12)
 (mkS 152
 [(1, AV.sl (List.map encY pk)), (2, AV.pt 0 0 0), (5, goI (↑n : Int)), (6, AV.pt 1 0 0),
 (7, AV.os 3 0 (List.length w)), (8, goI b), (9, goI (↑step : Int))]
 [Row.box [AV.sl X], Row.box [AV.sl ks, AV.sl bs, goI p, goI q, AV.sl (List.map encB bl)], Row.dead,
 Row.arr 2 (List.map encPl w)])
 r) = (TB (decide ((↑step : Int) ≤ (↑(List.length (List.map encY pk)) : Int)))
 (LoopTo Tryd.prog H (H 6) 0 (loopOf Tryd.prog 6 15)
 (mkS 152
 [(1, AV.sl (List.map encY pk)), (2, AV.pt 0 0 0), (5, goI (↑n : Int)), (6, AV.pt 1 0 0),
 (7, AV.os 3 0 (List.length w)), (8, goI b), (9, goI (↑step : Int)), (10, goI 0)]
 [Row.box [AV.sl X], Row.box [AV.sl ks, AV.sl bs, goI p, goI q, AV.sl (List.map encB bl)], Row.dead,
 Row.arr 2 (List.map encPl w)])
 (Ex.exit 4,
 mkS 152
 [(1, AV.sl (List.map encY pk)), (2, AV.pt 0 0 0), (5, goI (↑n : Int)), (6, AV.pt 1 0 0),
 (7, AV.os 3 0 (List.length w2)), (8, goI b), (9, goI (↑step : Int))]
 [Row.box [AV.sl X], Row.box [AV.sl ks, AV.sl bs, goI p, goI q, AV.sl (List.map encB bl)], Row.dead,
 Row.arr 2 (List.map encPl w2)]) ∧
 Wf Tryd.prog H 27 [AV.agg [AV.sl ks, AV.sl bs, goI p, goI q, AV.sl (List.map encB bl)], goI b] [] =
 some (AV.sl (U.nextR (List.map encB bl) b), [], []) ∧
 TB ((↑(List.length (U.nextR (List.map encB bl) b)) : Int) == 0)
 ((Ex.exit 2,
 mkS 152
 [(1, AV.sl (List.map encY pk)), (2, AV.pt 0 0 0), (5, goI (↑n : Int)), (6, AV.pt 1 0 0),
 (7, AV.os 3 0 (List.length w2))]
 [Row.box [AV.sl X], Row.box [AV.sl ks, AV.sl bs, goI p, goI q, AV.sl (List.map encB bl)], Row.dead,
 Row.arr 2 (List.map encPl w2)]) =
 r)
 (TB ((↑step : Int) == (↑(List.length (List.map encY pk)) : Int))
 ((Ex.exit 2,
 mkS 152
 [(1, AV.sl (List.map encY pk)), (2, AV.pt 0 0 0), (5, goI (↑n : Int)), (6, AV.pt 1 0 0),
 (7, AV.os 3 0 (List.length w2))]
 [Row.box [AV.sl X], Row.box [AV.sl ks, AV.sl bs, goI p, goI q, AV.sl (List.map encB bl)], Row.dead,
 Row.arr 2 (List.map encPl w2)]) =
 r)
 ((0 ≤ (↑step : Int) ∧
 (List.map encY pk)[step]? = some [AV.v (Value.int IntKind.u8 (rdI (rowAt (List.map encY pk) step) 0))]) ∧
 (↑(List.length (U.nextR (List.map encB bl) b)) : Int) ≠ 0 ∧
 (0 ≤
 Int.tmod (IntKind.wrap IntKind.i64 (rdI (rowAt (List.map encY pk) step) 0))
 (↑(List.length (U.nextR (List.map encB bl) b)) : Int) ∧
 (U.nextR (List.map encB bl)
 b)[Int.toNat
 (Int.tmod (IntKind.wrap IntKind.i64 (rdI (rowAt (List.map encY pk) step) 0))
 (↑(List.length (U.nextR (List.map encB bl) b)) : Int))]? =
 some
 [goI
 (rdI
 (rowAt (U.nextR (List.map encB bl) b)
 (Int.toNat
 (Int.tmod (IntKind.wrap IntKind.i64 (rdI (rowAt (List.map encY pk) step) 0))
 (↑(List.length (U.nextR (List.map encB bl) b)) : Int))))
 0)]) ∧
 LoopTo Tryd.prog H (H 6) 0 (loopOf Tryd.prog 6 12)
 (mkS 152
 [(1, AV.sl (List.map encY pk)), (2, AV.pt 0 0 0), (5, goI (↑n : Int)), (6, AV.pt 1 0 0),
 (7, AV.os 3 0 (List.length w2)),
 (8,
 goI
 (rdI
 (rowAt (U.nextR (List.map encB bl) b)
 (Int.toNat
 (Int.tmod (IntKind.wrap IntKind.i64 (rdI (rowAt (List.map encY pk) step) 0))
 (↑(List.length (U.nextR (List.map encB bl) b)) : Int))))
 0)),
 (9, goI (IntKind.wrap IntKind.i64 ((↑step : Int) + 1)))]
 [Row.box [AV.sl X], Row.box [AV.sl ks, AV.sl bs, goI p, goI q, AV.sl (List.map encB bl)], Row.dead,
 Row.arr 2 (List.map encPl w2)])
 r)))
 ((Ex.exit 2,
 mkS 152
 [(1, AV.sl (List.map encY pk)), (2, AV.pt 0 0 0), (5, goI (↑n : Int)), (6, AV.pt 1 0 0),
 (7, AV.os 3 0 (List.length w))]
 [Row.box [AV.sl X], Row.box [AV.sl ks, AV.sl bs, goI p, goI q, AV.sl (List.map encB bl)], Row.dead,
 Row.arr 2 (List.map encPl w)]) =
 r)) := by kernel_rfl
theorem tw6_15 (X : List (List AV)) (ks : List (List AV)) (bs : List (List AV)) (p : Int) (q : Int) (bl : List XB) (pk : List Int) (n : Nat) (w : List (Int × Int)) (b : Int) (step : Nat) (i : Nat) (r : Ex × St) : (turnT Tryd.prog H (fun f args sto => CT.of (F0 f args sto)) L0 false (H 6) 0 (loopOf Tryd.prog 6 15)
 (mkS 152
 [(1, AV.sl (List.map encY pk)), (2, AV.pt 0 0 0), (5, goI (↑n : Int)), (6, AV.pt 1 0 0),
 (7, AV.os 3 0 (List.length w)), (8, goI b), (9, goI (↑step : Int)), (10, goI (↑i : Int))]
 [Row.box [AV.sl X], Row.box [AV.sl ks, AV.sl bs, goI p, goI q, AV.sl (List.map encB bl)], Row.dead,
 Row.arr 2 (List.map encPl w)])
 r) = ((0 ≤ b ∧ (List.map encB bl)[Int.toNat b]? = some [AV.sl (rdL (rowAt (List.map encB bl) (Int.toNat b)) 0)]) ∧
 TB (decide ((↑i : Int) < (↑(List.length (rdL (rowAt (List.map encB bl) (Int.toNat b)) 0)) : Int)))
 (true = true ∧
 (List.length w = List.length (List.map encPl w) ∧ List.length w + 1 ≤ 1000000) ∧
 LoopTo Tryd.prog H (H 6) 0 (loopOf Tryd.prog 6 15)
 (mkS 152
 [(1, AV.sl (List.map encY pk)), (2, AV.pt 0 0 0), (5, goI (↑n : Int)), (6, AV.pt 1 0 0),
 (7, AV.os 3 0 (List.length w + 1)), (8, goI b), (9, goI (↑step : Int)),
 (10, goI (IntKind.wrap IntKind.i64 ((↑i : Int) + 1)))]
 [Row.box [AV.sl X], Row.box [AV.sl ks, AV.sl bs, goI p, goI q, AV.sl (List.map encB bl)], Row.dead,
 Row.arr 2 (List.map encPl w ++ [[goI b, goI (↑i : Int)]])])
 r)
 ((Ex.exit 4,
 mkS 152
 [(1, AV.sl (List.map encY pk)), (2, AV.pt 0 0 0), (5, goI (↑n : Int)), (6, AV.pt 1 0 0),
 (7, AV.os 3 0 (List.length w)), (8, goI b), (9, goI (↑step : Int))]
 [Row.box [AV.sl X], Row.box [AV.sl ks, AV.sl bs, goI p, goI q, AV.sl (List.map encB bl)], Row.dead,
 Row.arr 2 (List.map encPl w)]) =
 r)) := by kernel_rfl
theorem tw6_23 (X : List (List AV)) (ks : List (List AV)) (bs : List (List AV)) (p : Int) (q : Int) (bl : List XB) (pk : List Int) (n : Nat) (w : List (Int × Int)) (s0 : List Int) (k : Int) (wb : List Int) (wa : List Int) (wo : List Int) (wn : List Int) (sd : Bool) (d : Int) (s : Bool) (us : List Int) (r : Ex × St) : (turnT Tryd.prog H (F6 false wb wa wo wn sd d s us) L0 false (H 6) 0 (loopOf Tryd.prog 6 23)
 (mkS 152
 [(1, AV.sl (List.map encY pk)), (2, AV.pt 0 0 0), (5, goI (↑n : Int)), (6, AV.pt 1 0 0),
 (7, AV.os 3 0 (List.length w)), (12, AV.sl (List.map encU s0)), (13, goI k)]
 [Row.box [AV.sl X], Row.box [AV.sl ks, AV.sl bs, goI p, goI q, AV.sl (List.map encB bl)], Row.dead,
 Row.arr 2 (List.map encPl w)])
 r) = (TB (decide (k ≥ 0))
 ((0 ≤ k ∧ k < (↑(List.length w) : Int) ∧ 0 + Int.toNat k < List.length (List.map encPl w)) ∧
 cutAt 1 0 (List.map encPl w)[0 + Int.toNat k]? = some [goI (rdI (rowAt (List.map encPl w) (0 + Int.toNat k)) 0)] ∧
 (0 ≤ rdI (rowAt (List.map encPl w) (0 + Int.toNat k)) 0 ∧
 (List.map encB bl)[Int.toNat (rdI (rowAt (List.map encPl w) (0 + Int.toNat k)) 0)]? =
 some
 [AV.sl
 (rdL (rowAt (List.map encB bl) (Int.toNat (rdI (rowAt (List.map encPl w) (0 + Int.toNat k)) 0)))
 0)]) ∧
 (0 ≤ k ∧ k < (↑(List.length w) : Int) ∧ 0 + Int.toNat k < List.length (List.map encPl w)) ∧
 cutAt 1 1 (List.map encPl w)[0 + Int.toNat k]? =
 some [goI (rdI (rowAt (List.map encPl w) (0 + Int.toNat k)) 1)] ∧
 (0 ≤ rdI (rowAt (List.map encPl w) (0 + Int.toNat k)) 1 ∧
 (rdL (rowAt (List.map encB bl) (Int.toNat (rdI (rowAt (List.map encPl w) (0 + Int.toNat k)) 0)))
 0)[Int.toNat (rdI (rowAt (List.map encPl w) (0 + Int.toNat k)) 1)]? =
 some
 [goI
 (rdI
 (rowAt
 (rdL
 (rowAt (List.map encB bl)
 (Int.toNat (rdI (rowAt (List.map encPl w) (0 + Int.toNat k)) 0)))
 0)
 (Int.toNat (rdI (rowAt (List.map encPl w) (0 + Int.toNat k)) 1)))
 0),
 goI
 (rdI
 (rowAt
 (rdL
 (rowAt (List.map encB bl)
 (Int.toNat (rdI (rowAt (List.map encPl w) (0 + Int.toNat k)) 0)))
 0)
 (Int.toNat (rdI (rowAt (List.map encPl w) (0 + Int.toNat k)) 1)))
 1),
 goI
 (rdI
 (rowAt
 (rdL
 (rowAt (List.map encB bl)
 (Int.toNat (rdI (rowAt (List.map encPl w) (0 + Int.toNat k)) 0)))
 0)
 (Int.toNat (rdI (rowAt (List.map encPl w) (0 + Int.toNat k)) 1)))
 2),
 goI
 (rdI
 (rowAt
 (rdL
 (rowAt (List.map encB bl)
 (Int.toNat (rdI (rowAt (List.map encPl w) (0 + Int.toNat k)) 0)))
 0)
 (Int.toNat (rdI (rowAt (List.map encPl w) (0 + Int.toNat k)) 1)))
 3),
 goI
 (rdI
 (rowAt
 (rdL
 (rowAt (List.map encB bl)
 (Int.toNat (rdI (rowAt (List.map encPl w) (0 + Int.toNat k)) 0)))
 0)
 (Int.toNat (rdI (rowAt (List.map encPl w) (0 + Int.toNat k)) 1)))
 4),
 goI
 (rdI
 (rowAt
 (rdL
 (rowAt (List.map encB bl)
 (Int.toNat (rdI (rowAt (List.map encPl w) (0 + Int.toNat k)) 0)))
 0)
 (Int.toNat (rdI (rowAt (List.map encPl w) (0 + Int.toNat k)) 1)))
 5),
 AV.sl
 (rdL
 (rowAt
 (rdL
 (rowAt (List.map encB bl)
 (Int.toNat (rdI (rowAt (List.map encPl w) (0 + Int.toNat k)) 0)))
 0)
 (Int.toNat (rdI (rowAt (List.map encPl w) (0 + Int.toNat k)) 1)))
 6)]) ∧
 (0 ≤ k ∧ k < (↑(List.length w) : Int) ∧ 0 + Int.toNat k < List.length (List.map encPl w)) ∧
 cutAt 1 0 (List.map encPl w)[0 + Int.toNat k]? =
 some [goI (rdI (rowAt (List.map encPl w) (0 + Int.toNat k)) 0)] ∧
 (0 ≤ k ∧ k < (↑(List.length w) : Int) ∧ 0 + Int.toNat k < List.length (List.map encPl w)) ∧
 cutAt 1 1 (List.map encPl w)[0 + Int.toNat k]? =
 some [goI (rdI (rowAt (List.map encPl w) (0 + Int.toNat k)) 1)] ∧
 Wf Tryd.prog H 11
 [AV.agg [AV.sl ks, AV.sl bs, goI p, goI q, AV.sl (List.map encB bl)],
 goI (rdI (rowAt (List.map encPl w) (0 + Int.toNat k)) 0),
 goI (rdI (rowAt (List.map encPl w) (0 + Int.toNat k)) 1)]
 [] =
 some (AV.sl (List.map encU wb), [], []) ∧
 Wf Tryd.prog H 29 [AV.sl (List.map encU wb), AV.sl (List.map encU s0)] [] =
 some (goB true, [], []) ∧
 TB sd
 (Wf Tryd.prog H 12
 [AV.agg
 [goI
 (rdI
 (rowAt
 (rdL
 (rowAt (List.map encB bl)
 (Int.toNat (rdI (rowAt (List.map encPl w) (0 + Int.toNat k)) 0)))
 0)
 (Int.toNat (rdI (rowAt (List.map encPl w) (0 + Int.toNat k)) 1)))
 0),
 goI
 (rdI
 (rowAt
 (rdL
 (rowAt (List.map encB bl)
 (Int.toNat (rdI (rowAt (List.map encPl w) (0 + Int.toNat k)) 0)))
 0)
 (Int.toNat (rdI (rowAt (List.map encPl w) (0 + Int.toNat k)) 1)))
 1),
 goI
 (rdI
 (rowAt
 (rdL
 (rowAt (List.map encB bl)
 (Int.toNat (rdI (rowAt (List.map encPl w) (0 + Int.toNat k)) 0)))
 0)
 (Int.toNat (rdI (rowAt (List.map encPl w) (0 + Int.toNat k)) 1)))
 2),
 goI
 (rdI
 (rowAt
 (rdL
 (rowAt (List.map encB bl)
 (Int.toNat (rdI (rowAt (List.map encPl w) (0 + Int.toNat k)) 0)))
 0)
 (Int.toNat (rdI (rowAt (List.map encPl w) (0 + Int.toNat k)) 1)))
 3),
 goI
 (rdI
 (rowAt
 (rdL
 (rowAt (List.map encB bl)
 (Int.toNat (rdI (rowAt (List.map encPl w) (0 + Int.toNat k)) 0)))
 0)
 (Int.toNat (rdI (rowAt (List.map encPl w) (0 + Int.toNat k)) 1)))
 4),
 goI
 (rdI
 (rowAt
 (rdL
 (rowAt (List.map encB bl)
 (Int.toNat (rdI (rowAt (List.map encPl w) (0 + Int.toNat k)) 0)))
 0)
 (Int.toNat (rdI (rowAt (List.map encPl w) (0 + Int.toNat k)) 1)))
 5),
 AV.sl
 (rdL
 (rowAt
 (rdL
 (rowAt (List.map encB bl)
 (Int.toNat (rdI (rowAt (List.map encPl w) (0 + Int.toNat k)) 0)))
 0)
 (Int.toNat (rdI (rowAt (List.map encPl w) (0 + Int.toNat k)) 1)))
 6)]]
 [] =
 some (AV.tup [goI d, goB true], [], []) ∧
 Wf Tryd.prog H 30 [AV.sl (List.map encU s0), AV.sl [[goI d]]] [] =
 some (AV.sl (List.map encU wo), [], []) ∧
 TB s
 (Wf Tryd.prog H 17
 [AV.agg
 [goI
 (rdI
 (rowAt
 (rdL
 (rowAt (List.map encB bl)
 (Int.toNat
 (rdI (rowAt (List.map encPl w) (0 + Int.toNat k)) 0)))
 0)
 (Int.toNat (rdI (rowAt (List.map encPl w) (0 + Int.toNat k)) 1)))
 0),
 goI
 (rdI
 (rowAt
 (rdL
 (rowAt (List.map encB bl)
 (Int.toNat
 (rdI (rowAt (List.map encPl w) (0 + Int.toNat k)) 0)))
 0)
 (Int.toNat (rdI (rowAt (List.map encPl w) (0 + Int.toNat k)) 1)))
 1),
 goI
 (rdI
 (rowAt
 (rdL
 (rowAt (List.map encB bl)
 (Int.toNat
 (rdI (rowAt (List.map encPl w) (0 + Int.toNat k)) 0)))
 0)
 (Int.toNat (rdI (rowAt (List.map encPl w) (0 + Int.toNat k)) 1)))
 2),
 goI
 (rdI
 (rowAt
 (rdL
 (rowAt (List.map encB bl)
 (Int.toNat
 (rdI (rowAt (List.map encPl w) (0 + Int.toNat k)) 0)))
 0)
 (Int.toNat (rdI (rowAt (List.map encPl w) (0 + Int.toNat k)) 1)))
 3),
 goI
 (rdI
 (rowAt
 (rdL
 (rowAt (List.map encB bl)
 (Int.toNat
 (rdI (rowAt (List.map encPl w) (0 + Int.toNat k)) 0)))
 0)
 (Int.toNat (rdI (rowAt (List.map encPl w) (0 + Int.toNat k)) 1)))
 4),
 goI
 (rdI
 (rowAt
 (rdL
 (rowAt (List.map encB bl)
 (Int.toNat
 (rdI (rowAt (List.map encPl w) (0 + Int.toNat k)) 0)))
 0)
 (Int.toNat (rdI (rowAt (List.map encPl w) (0 + Int.toNat k)) 1)))
 5),
 AV.sl
 (rdL
 (rowAt
 (rdL
 (rowAt (List.map encB bl)
 (Int.toNat
 (rdI (rowAt (List.map encPl w) (0 + Int.toNat k)) 0)))
 0)
 (Int.toNat (rdI (rowAt (List.map encPl w) (0 + Int.toNat k)) 1)))
 6)]]
 [] =
 some (AV.os 0 0 (List.length us), [Row.arr 1 (List.map encI us)], []) ∧
 Wf Tryd.prog H 31
 [AV.sl (List.map encU wo),
 AV.sl (List.take (List.length us) (List.drop 0 (List.map encI us)))]
 [] =
 some (AV.sl (List.map encU wn), [], []) ∧
 (0 ≤ k ∧
 k < (↑(List.length w) : Int) ∧
 0 + Int.toNat k < List.length (List.map encPl w)) ∧
 cutAt 1 0 (List.map encPl w)[0 + Int.toNat k]? =
 some [goI (rdI (rowAt (List.map encPl w) (0 + Int.toNat k)) 0)] ∧
 (0 ≤ k ∧
 k < (↑(List.length w) : Int) ∧
 0 + Int.toNat k < List.length (List.map encPl w)) ∧
 cutAt 1 1 (List.map encPl w)[0 + Int.toNat k]? =
 some [goI (rdI (rowAt (List.map encPl w) (0 + Int.toNat k)) 1)] ∧
 Wf Tryd.prog H 15
 [AV.agg
 [AV.sl ks, AV.sl bs, goI p, goI q, AV.sl (List.map encB bl)],
 goI (rdI (rowAt (List.map encPl w) (0 + Int.toNat k)) 0),
 goI (rdI (rowAt (List.map encPl w) (0 + Int.toNat k)) 1)]
 [] =
 some (AV.sl (List.map encU wa), [], []) ∧
 Wf Tryd.prog H 29 [AV.sl (List.map encU wa), AV.sl (List.map encU wn)]
 [] =
 some (goB true, [], []) ∧
 LoopTo Tryd.prog H (H 6) 0 (loopOf Tryd.prog 6 23)
 (mkS 152
 [(1, AV.sl (List.map encY pk)), (2, AV.pt 0 0 0),
 (5, goI (↑n : Int)), (6, AV.pt 1 0 0),
 (7, AV.os 3 0 (List.length w)), (12, AV.sl (List.map encU wn)),
 (13, goI (IntKind.wrap IntKind.i64 (k - 1)))]
 [Row.box [AV.sl X],
 Row.box
 [AV.sl ks, AV.sl bs, goI p, goI q, AV.sl (List.map encB bl)],
 Row.dead, Row.arr 2 (List.map encPl w)])
 r)
 (Wf Tryd.prog H 17
 [AV.agg
 [goI
 (rdI
 (rowAt
 (rdL
 (rowAt (List.map encB bl)
 (Int.toNat
 (rdI (rowAt (List.map encPl w) (0 + Int.toNat k)) 0)))
 0)
 (Int.toNat (rdI (rowAt (List.map encPl w) (0 + Int.toNat k)) 1)))
 0),
 goI
 (rdI
 (rowAt
 (rdL
 (rowAt (List.map encB bl)
 (Int.toNat
 (rdI (rowAt (List.map encPl w) (0 + Int.toNat k)) 0)))
 0)
 (Int.toNat (rdI (rowAt (List.map encPl w) (0 + Int.toNat k)) 1)))
 1),
 goI
 (rdI
 (rowAt
 (rdL
 (rowAt (List.map encB bl)
 (Int.toNat
 (rdI (rowAt (List.map encPl w) (0 + Int.toNat k)) 0)))
 0)
 (Int.toNat (rdI (rowAt (List.map encPl w) (0 + Int.toNat k)) 1)))
 2),
 goI
 (rdI
 (rowAt
 (rdL
 (rowAt (List.map encB bl)
 (Int.toNat
 (rdI (rowAt (List.map encPl w) (0 + Int.toNat k)) 0)))
 0)
 (Int.toNat (rdI (rowAt (List.map encPl w) (0 + Int.toNat k)) 1)))
 3),
 goI
 (rdI
 (rowAt
 (rdL
 (rowAt (List.map encB bl)
 (Int.toNat
 (rdI (rowAt (List.map encPl w) (0 + Int.toNat k)) 0)))
 0)
 (Int.toNat (rdI (rowAt (List.map encPl w) (0 + Int.toNat k)) 1)))
 4),
 goI
 (rdI
 (rowAt
 (rdL
 (rowAt (List.map encB bl)
 (Int.toNat
 (rdI (rowAt (List.map encPl w) (0 + Int.toNat k)) 0)))
 0)
 (Int.toNat (rdI (rowAt (List.map encPl w) (0 + Int.toNat k)) 1)))
 5),
 AV.sl
 (rdL
 (rowAt
 (rdL
 (rowAt (List.map encB bl)
 (Int.toNat
 (rdI (rowAt (List.map encPl w) (0 + Int.toNat k)) 0)))
 0)
 (Int.toNat (rdI (rowAt (List.map encPl w) (0 + Int.toNat k)) 1)))
 6)]]
 [] =
 some (AV.nil, [], []) ∧
 Wf Tryd.prog H 31 [AV.sl (List.map encU wo), AV.sl []] [] =
 some (AV.sl (List.map encU wn), [], []) ∧
 (0 ≤ k ∧
 k < (↑(List.length w) : Int) ∧
 0 + Int.toNat k < List.length (List.map encPl w)) ∧
 cutAt 1 0 (List.map encPl w)[0 + Int.toNat k]? =
 some [goI (rdI (rowAt (List.map encPl w) (0 + Int.toNat k)) 0)] ∧
 (0 ≤ k ∧
 k < (↑(List.length w) : Int) ∧
 0 + Int.toNat k < List.length (List.map encPl w)) ∧
 cutAt 1 1 (List.map encPl w)[0 + Int.toNat k]? =
 some [goI (rdI (rowAt (List.map encPl w) (0 + Int.toNat k)) 1)] ∧
 Wf Tryd.prog H 15
 [AV.agg
 [AV.sl ks, AV.sl bs, goI p, goI q, AV.sl (List.map encB bl)],
 goI (rdI (rowAt (List.map encPl w) (0 + Int.toNat k)) 0),
 goI (rdI (rowAt (List.map encPl w) (0 + Int.toNat k)) 1)]
 [] =
 some (AV.sl (List.map encU wa), [], []) ∧
 Wf Tryd.prog H 29 [AV.sl (List.map encU wa), AV.sl (List.map encU wn)]
 [] =
 some (goB true, [], []) ∧
 LoopTo Tryd.prog H (H 6) 0 (loopOf Tryd.prog 6 23)
 (mkS 152
 [(1, AV.sl (List.map encY pk)), (2, AV.pt 0 0 0),
 (5, goI (↑n : Int)), (6, AV.pt 1 0 0),
 (7, AV.os 3 0 (List.length w)), (12, AV.sl (List.map encU wn)),
 (13, goI (IntKind.wrap IntKind.i64 (k - 1)))]
 [Row.box [AV.sl X],
 Row.box
 [AV.sl ks, AV.sl bs, goI p, goI q, AV.sl (List.map encB bl)],
 Row.dead, Row.arr 2 (List.map encPl w)])
 r))
 (Wf Tryd.prog H 12
 [AV.agg
 [goI
 (rdI
 (rowAt
 (rdL
 (rowAt (List.map encB bl)
 (Int.toNat (rdI (rowAt (List.map encPl w) (0 + Int.toNat k)) 0)))
 0)
 (Int.toNat (rdI (rowAt (List.map encPl w) (0 + Int.toNat k)) 1)))
 0),
 goI
 (rdI
 (rowAt
 (rdL
 (rowAt (List.map encB bl)
 (Int.toNat (rdI (rowAt (List.map encPl w) (0 + Int.toNat k)) 0)))
 0)
 (Int.toNat (rdI (rowAt (List.map encPl w) (0 + Int.toNat k)) 1)))
 1),
 goI
 (rdI
 (rowAt
 (rdL
 (rowAt (List.map encB bl)
 (Int.toNat (rdI (rowAt (List.map encPl w) (0 + Int.toNat k)) 0)))
 0)
 (Int.toNat (rdI (rowAt (List.map encPl w) (0 + Int.toNat k)) 1)))
 2),
 goI
 (rdI
 (rowAt
 (rdL
 (rowAt (List.map encB bl)
 (Int.toNat (rdI (rowAt (List.map encPl w) (0 + Int.toNat k)) 0)))
 0)
 (Int.toNat (rdI (rowAt (List.map encPl w) (0 + Int.toNat k)) 1)))
 3),
 goI
 (rdI
 (rowAt
 (rdL
 (rowAt (List.map encB bl)
 (Int.toNat (rdI (rowAt (List.map encPl w) (0 + Int.toNat k)) 0)))
 0)
 (Int.toNat (rdI (rowAt (List.map encPl w) (0 + Int.toNat k)) 1)))
 4),
 goI
 (rdI
 (rowAt
 (rdL
 (rowAt (List.map encB bl)
 (Int.toNat (rdI (rowAt (List.map encPl w) (0 + Int.toNat k)) 0)))
 0)
 (Int.toNat (rdI (rowAt (List.map encPl w) (0 + Int.toNat k)) 1)))
 5),
 AV.sl
 (rdL
 (rowAt
 (rdL
 (rowAt (List.map encB bl)
 (Int.toNat (rdI (rowAt (List.map encPl w) (0 + Int.toNat k)) 0)))
 0)
 (Int.toNat (rdI (rowAt (List.map encPl w) (0 + Int.toNat k)) 1)))
 6)]]
 [] =
 some (AV.tup [goI 0, goB false], [], []) ∧
 TB s
 (Wf Tryd.prog H 17
 [AV.agg
 [goI
 (rdI
 (rowAt
 (rdL
 (rowAt (List.map encB bl)
 (Int.toNat (rdI (rowAt (List.map encPl w) (0 + Int.toNat k)) 0)))
 0)
 (Int.toNat (rdI (rowAt (List.map encPl w) (0 + Int.toNat k)) 1)))
 0),
 goI
 (rdI
 (rowAt
 (rdL
 (rowAt (List.map encB bl)
 (Int.toNat (rdI (rowAt (List.map encPl w) (0 + Int.toNat k)) 0)))
 0)
 (Int.toNat (rdI (rowAt (List.map encPl w) (0 + Int.toNat k)) 1)))
 1),
 goI
 (rdI
 (rowAt
 (rdL
 (rowAt (List.map encB bl)
 (Int.toNat (rdI (rowAt (List.map encPl w) (0 + Int.toNat k)) 0)))
 0)
 (Int.toNat (rdI (rowAt (List.map encPl w) (0 + Int.toNat k)) 1)))
 2),
 goI
 (rdI
 (rowAt
 (rdL
 (rowAt (List.map encB bl)
 (Int.toNat (rdI (rowAt (List.map encPl w) (0 + Int.toNat k)) 0)))
 0)
 (Int.toNat (rdI (rowAt (List.map encPl w) (0 + Int.toNat k)) 1)))
 3),
 goI
 (rdI
 (rowAt
 (rdL
 (rowAt (List.map encB bl)
 (Int.toNat (rdI (rowAt (List.map encPl w) (0 + Int.toNat k)) 0)))
 0)
 (Int.toNat (rdI (rowAt (List.map encPl w) (0 + Int.toNat k)) 1)))
 4),
 goI
 (rdI
 (rowAt
 (rdL
 (rowAt (List.map encB bl)
 (Int.toNat (rdI (rowAt (List.map encPl w) (0 + Int.toNat k)) 0)))
 0)
 (Int.toNat (rdI (rowAt (List.map encPl w) (0 + Int.toNat k)) 1)))
 5),
 AV.sl
 (rdL
 (rowAt
 (rdL
 (rowAt (List.map encB bl)
 (Int.toNat (rdI (rowAt (List.map encPl w) (0 + Int.toNat k)) 0)))
 0)
 (Int.toNat (rdI (rowAt (List.map encPl w) (0 + Int.toNat k)) 1)))
 6)]]
 [] =
 some (AV.os 0 0 (List.length us), [Row.arr 1 (List.map encI us)], []) ∧
 Wf Tryd.prog H 31
 [AV.sl (List.map encU s0),
 AV.sl (List.take (List.length us) (List.drop 0 (List.map encI us)))]
 [] =
 some (AV.sl (List.map encU wn), [], []) ∧
 (0 ≤ k ∧
 k < (↑(List.length w) : Int) ∧
 0 + Int.toNat k < List.length (List.map encPl w)) ∧
 cutAt 1 0 (List.map encPl w)[0 + Int.toNat k]? =
 some [goI (rdI (rowAt (List.map encPl w) (0 + Int.toNat k)) 0)] ∧
 (0 ≤ k ∧
 k < (↑(List.length w) : Int) ∧
 0 + Int.toNat k < List.length (List.map encPl w)) ∧
 cutAt 1 1 (List.map encPl w)[0 + Int.toNat k]? =
 some [goI (rdI (rowAt (List.map encPl w) (0 + Int.toNat k)) 1)] ∧
 Wf Tryd.prog H 15
 [AV.agg [AV.sl ks, AV.sl bs, goI p, goI q, AV.sl (List.map encB bl)],
 goI (rdI (rowAt (List.map encPl w) (0 + Int.toNat k)) 0),
 goI (rdI (rowAt (List.map encPl w) (0 + Int.toNat k)) 1)]
 [] =
 some (AV.sl (List.map encU wa), [], []) ∧
 Wf Tryd.prog H 29 [AV.sl (List.map encU wa), AV.sl (List.map encU wn)]
 [] =
 some (goB true, [], []) ∧
 LoopTo Tryd.prog H (H 6) 0 (loopOf Tryd.prog 6 23)
 (mkS 152
 [(1, AV.sl (List.map encY pk)), (2, AV.pt 0 0 0),
 (5, goI (↑n : Int)), (6, AV.pt 1 0 0),
 (7, AV.os 3 0 (List.length w)), (12, AV.sl (List.map encU wn)),
 (13, goI (IntKind.wrap IntKind.i64 (k - 1)))]
 [Row.box [AV.sl X],
 Row.box
 [AV.sl ks, AV.sl bs, goI p, goI q, AV.sl (List.map encB bl)],
 Row.dead, Row.arr 2 (List.map encPl w)])
 r)
 (Wf Tryd.prog H 17
 [AV.agg
 [goI
 (rdI
 (rowAt
 (rdL
 (rowAt (List.map encB bl)
 (Int.toNat (rdI (rowAt (List.map encPl w) (0 + Int.toNat k)) 0)))
 0)
 (Int.toNat (rdI (rowAt (List.map encPl w) (0 + Int.toNat k)) 1)))
 0),
 goI
 (rdI
 (rowAt
 (rdL
 (rowAt (List.map encB bl)
 (Int.toNat (rdI (rowAt (List.map encPl w) (0 + Int.toNat k)) 0)))
 0)
 (Int.toNat (rdI (rowAt (List.map encPl w) (0 + Int.toNat k)) 1)))
 1),
 goI
 (rdI
 (rowAt
 (rdL
 (rowAt (List.map encB bl)
 (Int.toNat (rdI (rowAt (List.map encPl w) (0 + Int.toNat k)) 0)))
 0)
 (Int.toNat (rdI (rowAt (List.map encPl w) (0 + Int.toNat k)) 1)))
 2),
 goI
 (rdI
 (rowAt
 (rdL
 (rowAt (List.map encB bl)
 (Int.toNat (rdI (rowAt (List.map encPl w) (0 + Int.toNat k)) 0)))
 0)
 (Int.toNat (rdI (rowAt (List.map encPl w) (0 + Int.toNat k)) 1)))
 3),
 goI
 (rdI
 (rowAt
 (rdL
 (rowAt (List.map encB bl)
 (Int.toNat (rdI (rowAt (List.map encPl w) (0 + Int.toNat k)) 0)))
 0)
 (Int.toNat (rdI (rowAt (List.map encPl w) (0 + Int.toNat k)) 1)))
 4),
 goI
 (rdI
 (rowAt
 (rdL
 (rowAt (List.map encB bl)
 (Int.toNat (rdI (rowAt (List.map encPl w) (0 + Int.toNat k)) 0)))
 0)
 (Int.toNat (rdI (rowAt (List.map encPl w) (0 + Int.toNat k)) 1)))
 5),
 AV.sl
 (rdL
 (rowAt
 (rdL
 (rowAt (List.map encB bl)
 (Int.toNat (rdI (rowAt (List.map encPl w) (0 + Int.toNat k)) 0)))
 0)
 (Int.toNat (rdI (rowAt (List.map encPl w) (0 + Int.toNat k)) 1)))
 6)]]
 [] =
 some (AV.nil, [], []) ∧
 Wf Tryd.prog H 31 [AV.sl (List.map encU s0), AV.sl []] [] =
 some (AV.sl (List.map encU wn), [], []) ∧
 (0 ≤ k ∧
 k < (↑(List.length w) : Int) ∧
 0 + Int.toNat k < List.length (List.map encPl w)) ∧
 cutAt 1 0 (List.map encPl w)[0 + Int.toNat k]? =
 some [goI (rdI (rowAt (List.map encPl w) (0 + Int.toNat k)) 0)] ∧
 (0 ≤ k ∧
 k < (↑(List.length w) : Int) ∧
 0 + Int.toNat k < List.length (List.map encPl w)) ∧
 cutAt 1 1 (List.map encPl w)[0 + Int.toNat k]? =
 some [goI (rdI (rowAt (List.map encPl w) (0 + Int.toNat k)) 1)] ∧
 Wf Tryd.prog H 15
 [AV.agg [AV.sl ks, AV.sl bs, goI p, goI q, AV.sl (List.map encB bl)],
 goI (rdI (rowAt (List.map encPl w) (0 + Int.toNat k)) 0),
 goI (rdI (rowAt (List.map encPl w) (0 + Int.toNat k)) 1)]
 [] =
 some (AV.sl (List.map encU wa), [], []) ∧
 Wf Tryd.prog H 29 [AV.sl (List.map encU wa), AV.sl (List.map encU wn)]
 [] =
 some (goB true, [], []) ∧
 LoopTo Tryd.prog H (H 6) 0 (loopOf Tryd.prog 6 23)
 (mkS 152
 [(1, AV.sl (List.map encY pk)), (2, AV.pt 0 0 0),
 (5, goI (↑n : Int)), (6, AV.pt 1 0 0),
 (7, AV.os 3 0 (List.length w)), (12, AV.sl (List.map encU wn)),
 (13, goI (IntKind.wrap IntKind.i64 (k - 1)))]
 [Row.box [AV.sl X],
 Row.box
 [AV.sl ks, AV.sl bs, goI p, goI q, AV.sl (List.map encB bl)],
 Row.dead, Row.arr 2 (List.map encPl w)])
 r)))
 ((Ex.exit 6,
 mkS 152 [(1, AV.sl (List.map encY pk)), (2, AV.pt 0 0 0), (5, goI (↑n : Int))]
 [Row.box [AV.sl X], Row.dead, Row.dead, Row.dead]) =
 r)) := by kernel_rfl
def U.pla (w : List (Int × Int)) (j : Nat) : Int × Int := w.getD j default
theorem rowPl {w : List (Int × Int)} {j : Nat} (h : j < w.length) : rdI (rowAt (w.map encPl) (0 + j)) 0 = (U.pla w j).1 ∧ rdI (rowAt (w.map encPl) (0 + j)) 1 = (U.pla w j).2 ∧ (w.map encPl)[0 + j]? = some [goI (U.pla w j).1, goI (U.pla w j).2] := by
  have e1 : rowAt (w.map encPl) j = encPl (w.getD j default) := rowAt_map h
  have e2 : (w.map encPl)[j]? = some (encPl (w.getD j default)) := rows_map h
  rw [Nat.zero_add, e1, e2]; exact ⟨rfl, rfl, rfl⟩
theorem rowY {l : List Int} {i : Nat} (h : i < l.length) : rdI (rowAt (l.map encY) i) 0 = U.nt l i ∧ (l.map encY)[i]? = some [goY (U.nt l i)] := by
  have e1 : rowAt (l.map encY) i = encY (l.getD i default) := rowAt_map h
  have e2 : (l.map encY)[i]? = some (encY (l.getD i default)) := rows_map h
  rw [e1, e2]; exact ⟨rfl, rfl⟩
section
variable (X ks bs : List (List AV)) (p q : Int) (bl : List XB) (hc : CodeOk bl) (pk : List Int) (n : Nat)
include hc
theorem loopw15 (b : Nat) (hb : b < bl.length) (step : Nat) : ∀ (d i : Nat) (w : List (Int × Int)), i + d = (U.blk bl b).code.length → w.length + d ≤ 999999 →
    LoopTo Tryd.prog H (H 6) 0 (loopOf Tryd.prog 6 15) (mkS 152 [(1, .sl (pk.map encY)), (2, .pt 0 0 0), (5, goI n), (6, .pt 1 0 0), (7, .os 3 0 w.length), (8, goI b), (9, goI step), (10, goI i)] [.box [.sl X], .box [.sl ks, .sl bs, goI p, goI q, .sl (bl.map encB)], .dead, .arr 2 (w.map encPl)])
      (.exit 4, mkS 152 [(1, .sl (pk.map encY)), (2, .pt 0 0 0), (5, goI n), (6, .pt 1 0 0), (7, .os 3 0 (w ++ U.upP b i d).length), (8, goI b), (9, goI step)] [.box [.sl X], .box [.sl ks, .sl bs, goI p, goI q, .sl (bl.map encB)], .dead, .arr 2 ((w ++ U.upP b i d).map encPl)])
  | 0, i, w, hd, hl => by
    have e0 : U.upP b i 0 = [] := rfl
    have ecode : rdL (encB (U.blk bl b)) 0 = (U.blk bl b).code.map encIn := rfl
    rw [e0, List.append_nil]
    refine turnK (tw6_15 X ks bs p q bl pk n w b step i _) ?_
    rw [Int.toNat_natCast, rowB hb, getB hb, ecode, List.length_map, decide_eq_false (by omega)]
    exact ⟨⟨by omega, rfl⟩, rfl⟩
  | d + 1, i, w, hd, hl => by
    have ecode : rdL (encB (U.blk bl b)) 0 = (U.blk bl b).code.map encIn := rfl
    have hcl := hc _ (blk_mem hb)
    have e0 : w ++ U.upP b i (d + 1) = (w ++ [((b : Int), (i : Int))]) ++ U.upP b (i + 1) d := by
      show w ++ (((b : Int), (i : Int)) :: U.upP b (i + 1) d) = _
      rw [List.append_assoc]; rfl
    have ih := loopw15 b hb step d (i + 1) (w ++ [((b : Int), (i : Int))]) (by omega) (by rw [List.length_append, List.length_singleton]; omega)
    have e1 : (w ++ [((b : Int), (i : Int))]).length = w.length + 1 := List.length_append
    rw [e0]
    rw [e1, List.map_append (l₁ := w) (l₂ := [((b : Int), (i : Int))])] at ih
    refine turnK (tw6_15 X ks bs p q bl pk n w b step i _) ?_
    rw [Int.toNat_natCast, rowB hb, getB hb, ecode, List.length_map, decide_eq_true (by omega), wrapS (show i < (U.blk bl b).code.length by omega) (by omega)]
    exact ⟨⟨by omega, rfl⟩, rfl, ⟨by rw [List.length_map], by omega⟩, ih⟩
variable (hu : UsesOk bl) (hpk : ∀ i, i < pk.length → 0 ≤ U.nt pk i ∧ U.nt pk i ≤ 255) (hpl : pk.length ≤ 30)
include hu hpk hpl
theorem loopw12 : ∀ (d step b : Nat) (w : List (Int × Int)), step + d = pk.length → b < bl.length → Ch (Nxt bl) (w ++ [((b : Int), 0)]) → (∀ x ∈ w, Val bl x) → w.length + (d + 1) * 3000 ≤ 900000 →
    ∃ w', LoopTo Tryd.prog H (H 6) 0 (loopOf Tryd.prog 6 12) (mkS 152 [(1, .sl (pk.map encY)), (2, .pt 0 0 0), (5, goI n), (6, .pt 1 0 0), (7, .os 3 0 w.length), (8, goI b), (9, goI step)] [.box [.sl X], .box [.sl ks, .sl bs, goI p, goI q, .sl (bl.map encB)], .dead, .arr 2 (w.map encPl)])
      (.exit 2, mkS 152 [(1, .sl (pk.map encY)), (2, .pt 0 0 0), (5, goI n), (6, .pt 1 0 0), (7, .os 3 0 w'.length)] [.box [.sl X], .box [.sl ks, .sl bs, goI p, goI q, .sl (bl.map encB)], .dead, .arr 2 (w'.map encPl)]) ∧ Ch (Nxt bl) w' ∧ (∀ x ∈ w', Val bl x) ∧ w'.length ≤ 900000 := by
  intro d
  induction d with
  | zero =>
    intro step b w hd hb hch hv hl
    have hne := hu.ne b hb
    have hcl := hc _ (blk_mem hb)
    have h15 := loopw15 X ks bs p q bl hc pk n b hb step (U.blk bl b).code.length 0 w (by omega) (by omega)
    obtain ⟨g1, _⟩ := ch_upP bl b ((U.blk bl b).code.length - 1) 0 w (by rw [Int.toNat_natCast]; omega) hch
    rw [show (U.blk bl b).code.length - 1 + 1 = (U.blk bl b).code.length by omega] at g1
    have hv2 : ∀ x ∈ w ++ U.upP b 0 (U.blk bl b).code.length, Val bl x := fun x hx => by
      rcases List.mem_append.1 hx with hx | hx
      · exact hv x hx
      · obtain ⟨q1, q2, q3⟩ := upP_mem _ _ _ x hx
        unfold Val
        rw [q1, Int.toNat_natCast]
        omega
    have hl2 : (w ++ U.upP b 0 (U.blk bl b).code.length).length ≤ 900000 := by rw [List.length_append, upP_len]; omega
    generalize w ++ U.upP b 0 (U.blk bl b).code.length = w2 at h15 g1 hv2 hl2
    refine ⟨w2, turnK (tw6_12 X ks bs p q bl pk n w w2 b step _) ?_, g1, hv2, hl2⟩
    have h27 := wf16 ks bs p q bl b hc
    rw [List.length_map, nextR_map, List.length_map, decide_eq_true (by omega)]
    refine ⟨h15, h27, ?_⟩
    cases ((((U.nextAt bl b).length : Nat) : Int) == 0) with
    | true => exact rfl
    | false =>
      rw [show ((step : Int) == (pk.length : Int)) = true by rw [beq_iff_eq]; omega]
      exact rfl
  | succ d ih =>
    intro step b w hd hb hch hv hl
    have hne := hu.ne b hb
    have hcl := hc _ (blk_mem hb)
    have h15 := loopw15 X ks bs p q bl hc pk n b hb step (U.blk bl b).code.length 0 w (by omega) (by omega)
    obtain ⟨g1, g2⟩ := ch_upP bl b ((U.blk bl b).code.length - 1) 0 w (by rw [Int.toNat_natCast]; omega) hch
    rw [show (U.blk bl b).code.length - 1 + 1 = (U.blk bl b).code.length by omega] at g1 g2
    have hv2 : ∀ x ∈ w ++ U.upP b 0 (U.blk bl b).code.length, Val bl x := fun x hx => by
      rcases List.mem_append.1 hx with hx | hx
      · exact hv x hx
      · obtain ⟨q1, q2, q3⟩ := upP_mem _ _ _ x hx
        unfold Val
        rw [q1, Int.toNat_natCast]
        omega
    have hl2 : (w ++ U.upP b 0 (U.blk bl b).code.length).length ≤ w.length + 3000 := by rw [List.length_append, upP_len]; omega
    generalize w ++ U.upP b 0 (U.blk bl b).code.length = w2 at h15 g1 g2 hv2 hl2
    have h27 := wf16 ks bs p q bl b hc
    cases hz : ((((U.nextAt bl b).length : Nat) : Int) == 0) with
    | true =>
      refine ⟨w2, turnK (tw6_12 X ks bs p q bl pk n w w2 b step _) ?_, g1, hv2, by omega⟩
      rw [List.length_map, nextR_map, List.length_map, decide_eq_true (by omega), hz]
      exact ⟨h15, h27, rfl⟩
    | false =>
      have hz' : (U.nextAt bl b).length ≠ 0 := fun e => by rw [e] at hz; cases hz
      obtain ⟨u0, u1⟩ := hpk step (by omega)
      obtain ⟨e1, a1, a2⟩ := rem_in (n := ((U.nextAt bl b).length : Int)) ⟨u0, u1⟩ (by omega)
      obtain ⟨A, hA⟩ := Int.eq_ofNat_of_zero_le a1
      have hAl : A < (U.nextAt bl b).length := by omega
      have hin := hu.next b (by omega) (by omega) (U.nt (U.nextAt bl b) A) (getD_mem hAl)
      obtain ⟨t, ht⟩ := Int.eq_ofNat_of_zero_le hin.1
      have hmem : ((t : Nat) : Int) ∈ U.nextAt bl b := by rw [← ht]; exact getD_mem hAl
      obtain ⟨w', k1, k2, k3, k4⟩ := ih (step + 1) t w2 (by omega) (by omega) (g2 t hmem) hv2 (by omega)
      refine ⟨w', turnK (tw6_12 X ks bs p q bl pk n w w2 b step _) ?_, k2, k3, k4⟩
      obtain ⟨y1, y2⟩ := rowY (l := pk) (i := step) (by omega)
      rw [List.length_map, nextR_map, List.length_map, decide_eq_true (by omega), hz, show ((step : Int) == (pk.length : Int)) = false by rw [beq_eq_false_iff_ne]; omega, y1, y2, e1, hA, Int.toNat_natCast, rowI hAl, getI hAl, wrapS (show step < pk.length by omega) (by omega)]
      have ei : rdI [goI (U.nt (U.nextAt bl b) A)] 0 = (t : Int) := ht
      rw [ei, ht]
      exact ⟨h15, h27, ⟨by omega, rfl⟩, by omega, ⟨by omega, rfl⟩, k1⟩
end
/-- What is live, by the queue. -/
theorem thr_live {bl : List XB} (hu : UsesOk bl) {inn out : List (List Int)} (hI : LInv bl inn out []) {b i : Nat} (hb : b < bl.length) (hi : i ≤ (U.blk bl b).code.length) (v : Nat) : Bit.tb (U.thrL (U.blk bl b).code i (out.getD b [])) v = true ↔ LiveAt bl b i v := by
  obtain ⟨o1, o2, o3⟩ := live_out hu hI hb
  exact tb_thr o1 (uses4096 hu hb) o3 ((U.blk bl b).code.length - i) i (by omega) v
theorem ask_len (bl : List XB) : ∀ l, (U.askF bl l).length ≤ 1000
  | [] => by simp [U.askF]
  | x :: l => backL_len _ _ (ask_len bl l)
section
variable (X ks bs : List (List AV)) (p q : Int) (bl : List XB) (hc : CodeOk bl) (pk : List Int) (n : Nat) (hx : ∀ b ∈ bl, ∀ x ∈ b.code, InsIn x) {out inn : List (List Int)} (h47 : Wf Tryd.prog H 47 [.agg [.sl ks, .sl bs, goI p, goI q, .sl (bl.map encB)]] [] = some (.os 0 0 out.length, [.arr 1 (out.map encL)], [])) (hI : LInv bl inn out []) (hO : LenA out) (hu : UsesOk bl)
include hc hx h47 hI hO hu
theorem loopw23 (w : List (Int × Int)) (hw : w.length ≤ 900000) (hch : Ch (Nxt bl) w) (hv : ∀ x ∈ w, Val bl x) : ∀ (j : Nat), j ≤ w.length →
    LoopTo Tryd.prog H (H 6) 0 (loopOf Tryd.prog 6 23) (mkS 152 [(1, .sl (pk.map encY)), (2, .pt 0 0 0), (5, goI n), (6, .pt 1 0 0), (7, .os 3 0 w.length), (12, .sl ((U.askF bl (w.drop j)).map encU)), (13, goI ((j : Int) - 1))] [.box [.sl X], .box [.sl ks, .sl bs, goI p, goI q, .sl (bl.map encB)], .dead, .arr 2 (w.map encPl)])
      (.exit 6, mkS 152 [(1, .sl (pk.map encY)), (2, .pt 0 0 0), (5, goI n)] [.box [.sl X], .dead, .dead, .dead])
  | 0, _ => by
    refine turnK (tw6_23 X ks bs p q bl pk n w (U.askF bl (w.drop 0)) ((0 : Nat) - 1 : Int) [] [] [] [] false 0 false [] _) ?_
    rw [decide_eq_false (by omega)]
    exact rfl
  | j + 1, hj => by
    have hjl : j < w.length := by omega
    have ih := loopw23 w hw hch hv j (by omega)
    have ed : w.drop j = U.pla w j :: w.drop (j + 1) := drop_cons' w hjl
    obtain ⟨p1, p2, p3⟩ := rowPl hjl
    have hval := hv (U.pla w j) (getD_mem hjl)
    have hch' : Ch (Nxt bl) (U.pla w j :: w.drop (j + 1)) := by
      refine ch_tail (w.take j) _ ?_
      rw [← ed, List.take_append_drop]; exact hch
    obtain ⟨k1, k2⟩ := ask_live hu (w.drop (j + 1)) (U.pla w j) hch' (fun y hy => hv y (by rw [← ed] at hy; exact List.mem_of_mem_drop hy))
    rw [ed] at ih
    have hsw := ask_Wd bl (w.drop (j + 1))
    have hsl := ask_len bl (w.drop (j + 1))
    have hw2 := ask_Wd bl (U.pla w j :: w.drop (j + 1))
    have hl2 := ask_len bl (U.pla w j :: w.drop (j + 1))
    have hb2 : U.askF bl (U.pla w j :: w.drop (j + 1)) = U.backL (U.ins (U.blk bl (U.pla w j).1.toNat).code (U.pla w j).2.toNat) (U.askF bl (w.drop (j + 1))) := rfl
    generalize U.pla w j = x at p1 p2 p3 hval k1 k2 hb2 hw2 hl2 ih
    obtain ⟨xb, xi⟩ := x
    obtain ⟨v1, v2, v3, v4⟩ := hval
    simp only at v1 v2 v3 v4 p1 p2 p3 k1 k2
    obtain ⟨A, rfl⟩ := Int.eq_ofNat_of_zero_le v1
    obtain ⟨I, rfl⟩ := Int.eq_ofNat_of_zero_le v3
    simp only [Int.toNat_natCast] at v2 v4 k1 k2 hb2
    have ht : U.there bl (A : Int) (I : Int) = true := there_nat v2 v4
    have ewb : U.behindO bl out A I = U.thrL (U.blk bl A).code (I + 1) (out.getD A []) := by unfold U.behindO; rw [if_pos ht]; rfl
    have ewa : U.aheadO bl out A I = U.thrL (U.blk bl A).code I (out.getD A []) := by unfold U.aheadO; rw [if_pos ht]; rfl
    have h11 := wv11 ks bs p q bl hc hx h47 hI hO A I
    have h15 := wv15 ks bs p q bl hc hx h47 hI hO A I
    rw [ewb] at h11
    rw [ewa] at h15
    have lb := thr_len _ (hO.at A) ((U.blk bl A).code.drop (I + 1))
    have la := thr_len _ (hO.at A) ((U.blk bl A).code.drop I)
    have wb := thr_Wd (hI.wdo.at A) ((U.blk bl A).code.drop (I + 1))
    have wa := thr_Wd (hI.wdo.at A) ((U.blk bl A).code.drop I)
    have tb1 := thr_live hu hI v2 (show I + 1 ≤ (U.blk bl A).code.length by omega)
    have tb2 := thr_live hu hI v2 (show I ≤ (U.blk bl A).code.length by omega)
    have h29a := wr29 (a := U.thrL (U.blk bl A).code (I + 1) (out.getD A [])) lb hsl wb hsw (fun v h => (tb1 v).2 (k1 v h))
    have h29b := wr29 (a := U.thrL (U.blk bl A).code I (out.getD A [])) la hl2 wa hw2 (fun v h => (tb2 v).2 (k2 v h))
    rw [hb2] at h29b ih
    have hins := hx _ (blk_mem v2) _ (ins_mem v4)
    have ecode : rdL (encB (U.blk bl A)) 0 = (U.blk bl A).code.map encIn := rfl
    generalize U.thrL (U.blk bl A).code (I + 1) (out.getD A []) = w1 at h11 h29a
    generalize U.thrL (U.blk bl A).code I (out.getD A []) = w2 at h15 h29b
    generalize U.askF bl (w.drop (j + 1)) = s0 at h29a h29b hsw hsl ih ⊢
    have hgi := getIn v4
    have hri := rowIn v4
    generalize U.ins (U.blk bl A).code I = ix at hins h29b ih hgi hri
    have h12 := wf82 ix.op ix.d ix.a ix.b ix.n ix.m ix.args
    have h17 := wf57 ix hins.1
    have hul := usesL_len ix
    have hal := hins.1
    have h30 := wr30 s0 [ix.d] hsw hsl (by simp) (fun m hm => by rw [List.mem_singleton.1 hm]; exact hins.2)
    have hpre : ((j + 1 : Nat) : Int) - 1 = (j : Int) := by omega
    have hin : 0 ≤ (j : Int) ∧ (j : Int) < (w.length : Int) ∧ 0 + j < (w.map encPl).length := ⟨by omega, by omega, by rw [List.length_map]; omega⟩
    have ew : IntKind.i64.wrap ((j : Int) - 1) = (j : Int) - 1 := wrap64 (by omega) (by omega)
    rw [hpre]
    cases hd : U.has ix.op 68 with
    | true =>
      rw [hd] at h12
      have eb : U.backL ix s0 = U.withL (U.withoutL s0 [ix.d]) (U.uses ix) := by unfold U.backL; rw [if_pos hd]
      rw [eb] at h29b ih
      have h31 := wr31 (U.withoutL s0 [ix.d]) (U.uses ix) (withoutL_Wd hsw) (withoutL_len _ _ hsl) (by omega)
      refine turnK (tw6_23 X ks bs p q bl pk n w s0 j w1 w2 (U.withoutL s0 [ix.d]) (U.withL (U.withoutL s0 [ix.d]) (U.uses ix)) true ix.d (U.some ix) (U.uses ix) _) ?_
      rw [decide_eq_true (by omega), Int.toNat_natCast, p1, p2, p3, Int.toNat_natCast, Int.toNat_natCast, rowB v2, getB v2, ecode, hri, hgi, take_usesI, ew]
      simp only [encIn, rdI, rdL, slOf, List.getD_cons_zero, List.getD_cons_succ, int_goI]
      refine ⟨hin, rfl, ⟨by omega, rfl⟩, hin, rfl, ⟨by omega, by trivial⟩, hin, rfl, hin, rfl, h11, h29a, h12, h30, ?_⟩
      cases hsm : U.some ix with
      | true => rw [hsm] at h17; exact ⟨h17, h31, hin, rfl, hin, rfl, h15, h29b, ih⟩
      | false =>
        rw [hsm] at h17
        rw [some_no hsm] at h31 h29b ih ⊢
        exact ⟨h17, h31, hin, rfl, hin, rfl, h15, h29b, ih⟩
    | false =>
      rw [hd] at h12
      have eb : U.backL ix s0 = U.withL s0 (U.uses ix) := by unfold U.backL; rw [if_neg (by rw [hd]; simp)]
      rw [eb] at h29b ih
      have h31 := wr31 s0 (U.uses ix) hsw hsl (by omega)
      refine turnK (tw6_23 X ks bs p q bl pk n w s0 j w1 w2 [] (U.withL s0 (U.uses ix)) false 0 (U.some ix) (U.uses ix) _) ?_
      rw [decide_eq_true (by omega), Int.toNat_natCast, p1, p2, p3, Int.toNat_natCast, Int.toNat_natCast, rowB v2, getB v2, ecode, hri, hgi, take_usesI, ew]
      simp only [encIn, rdI, rdL, slOf, List.getD_cons_zero, List.getD_cons_succ, int_goI]
      refine ⟨hin, rfl, ⟨by omega, rfl⟩, hin, rfl, ⟨by omega, by trivial⟩, hin, rfl, hin, rfl, h11, h29a, h12, ?_⟩
      cases hsm : U.some ix with
      | true => rw [hsm] at h17; exact ⟨h17, h31, hin, rfl, hin, rfl, h15, h29b, ih⟩
      | false =>
        rw [hsm] at h17
        rw [some_no hsm] at h31 h29b ih ⊢
        exact ⟨h17, h31, hin, rfl, hin, rfl, h15, h29b, ih⟩
end
theorem loopw6 (a : List XF) (pk : List Int) (hpk : ∀ i, i < pk.length → 0 ≤ U.nt pk i ∧ U.nt pk i ≤ 255) (hpl : pk.length ≤ 30) (hK : Asked a) : ∀ (d n : Nat), n + d = a.length →
    LoopTo Tryd.prog H (H 6) 0 (loopOf Tryd.prog 6 6) (mkS 152 [(1, .sl (pk.map encY)), (2, .pt 0 0 0), (5, goI n)] [.box [.sl (a.map encF)], .dead, .dead, .dead]) (.exit 0, mkS 152 [] [.dead, .dead, .dead, .dead])
  | 0, n, hd => by
    refine turnK (tw6_6 a pk n [] _) ?_
    rw [List.length_map, decide_eq_false (by omega)]
    exact rfl
  | d + 1, n, hd => by
    have hi : n < a.length := by omega
    have ih := loopw6 a pk hpk hpl hK d (n + 1) (by omega)
    have hlen := hK.len
    have hf := hK.small _ (fun_mem hi)
    have hF := funcOk_of (okFunc_at hK.ok (fun_mem hi))
    have hc := codeOk_of hf
    have hx := insIn_of hK.ok hi hf
    have hl := hK.few _ (fun_mem hi)
    have hu := usesOk_of hK.ok hi
    have hn1 := hF.blocks.1
    obtain ⟨out, inn, h47, hI, hA, hO⟩ := wv47 ((U.fun_ a n).kinds.map encI) ((U.fun_ a n).base.map encI) (U.fun_ a n).params (U.fun_ a n).result (U.fun_ a n).blocks hc hl hx hu
    obtain ⟨w, h12, c1, c2, c3⟩ := loopw12 (a.map encF) ((U.fun_ a n).kinds.map encI) ((U.fun_ a n).base.map encI) (U.fun_ a n).params (U.fun_ a n).result (U.fun_ a n).blocks hc pk n hu hpk hpl pk.length 0 0 [] (by omega) (by omega) trivial (fun x hx => by simp at hx) (by simp; omega)
    have h23 := loopw23 (a.map encF) ((U.fun_ a n).kinds.map encI) ((U.fun_ a n).base.map encI) (U.fun_ a n).params (U.fun_ a n).result (U.fun_ a n).blocks hc pk n hx h47 hI hO hu w c3 c1 c2 w.length (Nat.le_refl _)
    rw [List.drop_length] at h23
    have ew : IntKind.i64.wrap ((w.length : Int) - 1) = (w.length : Int) - 1 := wrap64 (by omega) (by omega)
    refine turnK (tw6_6 a pk n w _) ?_
    rw [List.length_map, decide_eq_true (show (n : Int) < a.length by omega), wrapS hi (by omega), rowF hi, getF hi, ew]
    simp only [encF, rdI, rdL, slOf, List.getD_cons_zero, List.getD_cons_succ, int_goI]
    exact ⟨⟨by omega, by trivial⟩, h12, h23, ih⟩
theorem wfw6 (p : XP) (pk : List Int) (hpk : ∀ y ∈ pk, 0 ≤ y ∧ y ≤ 255) (hp : HandP p) : Wf Tryd.prog H 6 [.agg (encP p), .sl (pk.map encY)] [] = some (goB true, [], []) := by
  refine runK (tw6 p.funcs pk (U.out11 p) _) ⟨wf9, wf10 p hp, ?_⟩
  rw [List.length_map]
  cases ho : U.out11 p with
  | true => exact rfl
  | false =>
    by_cases hl : (pk.length : Int) > 30
    · rw [decide_eq_true hl]; exact rfl
    · rw [decide_eq_false hl]
      exact ⟨loopw6 p.funcs pk (fun i hi => hpk _ (getD_mem hi)) (by omega) (asked_of ho) p.funcs.length 0 (by omega), rfl⟩
end Go.Proofs.YtdnekkkpngnmkaaDoor.E
