/- Functions, by what the evaluator asks; the theorems t.. were printed by show.txt, a program of this session. -/
import Derived.Test.YtabdcfcnngnnoaaDoor05m
import Derived.Test.YtabdcfcnngnnoaaDoorD2x
set_option linter.unusedVariables false
set_option linter.unusedSectionVars false
set_option linter.unusedSimpArgs false
set_option maxRecDepth 100000
namespace Go.Proofs.YtabdcfcnngnnoaaDoor.E
open Go
namespace U
def prevO (bl : List (List AV)) (n : Int) : List Int := prevAt (bl.map decB) n
end U
def FM (m : Int) : CallT := fun f args sto => match f, args with
 | 57, [.agg [_, _, _, _, .sl bl], .v (.int _ n)] => .by (decide (n < 0) || decide (n ≥ bl.length)) (.is (.sl [], [], [])) (.is (.os 0 0 (U.prevO bl n).length, [.arr 1 ((U.prevO bl n).map encI)], []))
 | 63, _ => .is (goI m, [], [])
 | _, _ => .no
def FG (od : List Int) : CallT := fun f args sto => match f with
 | 62 => .is (.os 0 0 od.length, [.arr 1 (od.map encI)], [])
 | _ => .no
def LM (m : Int) : Nat → St → LT := fun id st => .is (.exit 0) (mkS 30 [(2, goI m)])
def LG (n : Nat) (od ab1 dp1 pl1 pl2 ab2 dp2 : List Int) (c : Bool) (m : Int) : Nat → St → LT := fun id st => match id, st.2 with
 | 5, [x0, _, _, x3, _] => .is (.exit 0) (mkS 172 [(1, .pt 0 0 0), (4, .pt 3 0 0), (5, .os 4 0 n)] [x0, .arr 1 (ab1.map encI), .arr 1 (dp1.map encI), x3, .arr 1 (pl1.map encI)])
 | 11, [x0, x1, x2, x3, _] => .is (.exit 2) (mkS 172 [(1, .pt 0 0 0), (4, .pt 3 0 0), (5, .os 4 0 n), (7, .sl (od.map encI))] [x0, x1, x2, x3, .arr 1 (pl2.map encI)])
 | 16, [x0, _, x2, x3, x4] => .is (.exit 4) (mkS 172 [(4, .pt 3 0 0), (7, .sl (od.map encI))] [x0, .arr 1 (ab2.map encI), x2, x3, x4])
 | 19, [x0, _, x2, x3, x4] => .is (.exit 6) (mkS 172 [(1, .pt 0 0 0), (4, .pt 3 0 0), (5, .os 4 0 n), (7, .sl (od.map encI)), (10, goB c)] [x0, .arr 1 (ab2.map encI), x2, x3, x4])
 | 23, _ => .is (.exit 8) (mkS 172 [(1, .pt 0 0 0), (4, .pt 3 0 0), (5, .os 4 0 n), (7, .sl (od.map encI)), (10, st.1.getD 10 .dead), (12, st.1.getD 12 .dead), (13, goI m), (68, st.1.getD 68 .dead), (69, st.1.getD 69 .dead), (70, st.1.getD 70 .dead)] st.2)
 | 34, [_, x1, _, x3, _] => .is (.exit 11) (mkS 172 [(4, .pt 3 0 0)] [.dead, x1, .arr 1 (dp2.map encI), x3, .dead])
 | _, _ => .no
def gS (X : List AV) (n : Nat) (ab dp pl : List Int) : List Row := [.box X, .arr 1 (ab.map encI), .arr 1 (dp.map encI), .box [.os 1 0 n, .os 2 0 n], .arr 1 (pl.map encI)]
set_option maxHeartbeats 4000000

theorem td63 (ab : List Int) (pl : List Int) (a : Int) (b : Int) (m : Int) (r : AV × List Row × List Nat) : (runT Tryd.prog H (fun f args sto => CT.of (F0 f args sto)) (LM m) false 63
 [AV.sl (List.map encI ab), AV.sl (List.map encI pl), goI a, goI b] [] fun q => q = r) = (LoopTo Tryd.prog H (H 63) 0 (loopOf Tryd.prog 63 1)
 (mkS 30 [(0, AV.sl (List.map encI ab)), (1, AV.sl (List.map encI pl)), (2, goI a), (3, goI b)])
 (Ex.exit 0, mkS 30 [(2, goI m)]) ∧
 (goI m, [], []) = r) := by kernel_rfl
theorem td63_1 (ab : List Int) (pl : List Int) (a : Int) (b : Int) (r : Ex × St) : (turnT Tryd.prog H (fun f args sto => CT.of (F0 f args sto)) L0 false (H 63) 0 (loopOf Tryd.prog 63 1)
 (mkS 30 [(0, AV.sl (List.map encI ab)), (1, AV.sl (List.map encI pl)), (2, goI a), (3, goI b)]) r) = (TB (!a == b)
 ((0 ≤ a ∧ (List.map encI pl)[Int.toNat a]? = some [goI (rdI (rowAt (List.map encI pl) (Int.toNat a)) 0)]) ∧
 (0 ≤ b ∧ (List.map encI pl)[Int.toNat b]? = some [goI (rdI (rowAt (List.map encI pl) (Int.toNat b)) 0)]) ∧
 TB (decide (rdI (rowAt (List.map encI pl) (Int.toNat a)) 0 > rdI (rowAt (List.map encI pl) (Int.toNat b)) 0))
 ((0 ≤ a ∧ (List.map encI ab)[Int.toNat a]? = some [goI (rdI (rowAt (List.map encI ab) (Int.toNat a)) 0)]) ∧
 LoopTo Tryd.prog H (H 63) 0 (loopOf Tryd.prog 63 1)
 (mkS 30
 [(0, AV.sl (List.map encI ab)), (1, AV.sl (List.map encI pl)),
 (2, goI (rdI (rowAt (List.map encI ab) (Int.toNat a)) 0)), (3, goI b)])
 r)
 ((0 ≤ b ∧ (List.map encI ab)[Int.toNat b]? = some [goI (rdI (rowAt (List.map encI ab) (Int.toNat b)) 0)]) ∧
 LoopTo Tryd.prog H (H 63) 0 (loopOf Tryd.prog 63 1)
 (mkS 30
 [(0, AV.sl (List.map encI ab)), (1, AV.sl (List.map encI pl)), (2, goI a),
 (3, goI (rdI (rowAt (List.map encI ab) (Int.toNat b)) 0))])
 r))
 ((Ex.exit 0, mkS 30 [(2, goI a)]) = r)) := by kernel_rfl
theorem td48 (ks : List (List AV)) (bs : List (List AV)) (p : Int) (q : Int) (bl : List XB) (n : Nat) (od : List Int) (ab1 : List Int) (dp1 : List Int) (pl1 : List Int) (pl2 : List Int) (ab2 : List Int) (dp2 : List Int) (r : AV × List Row × List Nat) : (runT Tryd.prog H (FG od) (LG n od ab1 dp1 pl1 pl2 ab2 dp2 false 0) false 38
 [AV.agg [AV.sl ks, AV.sl bs, goI p, goI q, AV.sl (List.map encB bl)]] [] fun q => q = r) = ((0 ≤ (↑(List.length (List.map encB bl)) : Int) ∧
 (↑(List.length (List.map encB bl)) : Int) ≤ (↑(List.length (List.map encB bl)) : Int) ∧
 (↑(List.length (List.map encB bl)) : Int) ≤ (↑1000000 : Int)) ∧
 (0 ≤ (↑(List.length (List.map encB bl)) : Int) ∧
 (↑(List.length (List.map encB bl)) : Int) ≤ (↑(List.length (List.map encB bl)) : Int) ∧
 (↑(List.length (List.map encB bl)) : Int) ≤ (↑1000000 : Int)) ∧
 (0 ≤ (↑(List.length (List.map encB bl)) : Int) ∧
 (↑(List.length (List.map encB bl)) : Int) ≤ (↑(List.length (List.map encB bl)) : Int) ∧
 (↑(List.length (List.map encB bl)) : Int) ≤ (↑1000000 : Int)) ∧
 LoopTo Tryd.prog H (H 38) 0 (loopOf Tryd.prog 38 5)
 (mkS 172
 [(1, AV.pt 0 0 0), (4, AV.pt 3 0 0),
 (5, AV.os 4 0 (List.length (List.replicate (List.length (List.map encB bl)) [goI 0]))),
 (29, goI (↑(List.length (List.map encB bl)) : Int)), (30, goI 0)]
 [Row.box [AV.sl ks, AV.sl bs, goI p, goI q, AV.sl (List.map encB bl)],
 Row.arr 1 (List.replicate (List.length (List.map encB bl)) [goI 0]),
 Row.arr 1 (List.replicate (List.length (List.map encB bl)) [goI 0]),
 Row.box
 [AV.os 1 0 (List.length (List.replicate (List.length (List.map encB bl)) [goI 0])),
 AV.os 2 0 (List.length (List.replicate (List.length (List.map encB bl)) [goI 0]))],
 Row.arr 1 (List.replicate (List.length (List.map encB bl)) [goI 0])])
 (Ex.exit 0,
 mkS 172 [(1, AV.pt 0 0 0), (4, AV.pt 3 0 0), (5, AV.os 4 0 n)]
 [Row.box [AV.sl ks, AV.sl bs, goI p, goI q, AV.sl (List.map encB bl)], Row.arr 1 (List.map encI ab1),
 Row.arr 1 (List.map encI dp1),
 Row.box
 [AV.os 1 0 (List.length (List.replicate (List.length (List.map encB bl)) [goI 0])),
 AV.os 2 0 (List.length (List.replicate (List.length (List.map encB bl)) [goI 0]))],
 Row.arr 1 (List.map encI pl1)]) ∧
 Wf Tryd.prog H 62 [AV.agg [AV.sl ks, AV.sl bs, goI p, goI q, AV.sl (List.map encB bl)]] [] =
 some (AV.os 0 0 (List.length od), [Row.arr 1 (List.map encI od)], []) ∧
 LoopTo Tryd.prog H (H 38) 0 (loopOf Tryd.prog 38 11)
 (mkS 172
 [(1, AV.pt 0 0 0), (4, AV.pt 3 0 0), (5, AV.os 4 0 n),
 (7, AV.sl (List.take (List.length od) (List.drop 0 (List.map encI od)))),
 (51, AV.sl (List.take (List.length od) (List.drop 0 (List.map encI od)))),
 (52, goI (↑(List.length (List.take (List.length od) (List.drop 0 (List.map encI od)))) : Int)),
 (53, goI 0)]
 [Row.box [AV.sl ks, AV.sl bs, goI p, goI q, AV.sl (List.map encB bl)], Row.arr 1 (List.map encI ab1),
 Row.arr 1 (List.map encI dp1),
 Row.box
 [AV.os 1 0 (List.length (List.replicate (List.length (List.map encB bl)) [goI 0])),
 AV.os 2 0 (List.length (List.replicate (List.length (List.map encB bl)) [goI 0]))],
 Row.arr 1 (List.map encI pl1)])
 (Ex.exit 2,
 mkS 172 [(1, AV.pt 0 0 0), (4, AV.pt 3 0 0), (5, AV.os 4 0 n), (7, AV.sl (List.map encI od))]
 [Row.box [AV.sl ks, AV.sl bs, goI p, goI q, AV.sl (List.map encB bl)], Row.arr 1 (List.map encI ab1),
 Row.arr 1 (List.map encI dp1),
 Row.box
 [AV.os 1 0 (List.length (List.replicate (List.length (List.map encB bl)) [goI 0])),
 AV.os 2 0 (List.length (List.replicate (List.length (List.map encB bl)) [goI 0]))],
 Row.arr 1 (List.map encI pl2)]) ∧
 LoopTo Tryd.prog H (H 38) 0 (loopOf Tryd.prog 38 16)
 (mkS 172
 [(1, AV.pt 0 0 0), (4, AV.pt 3 0 0), (5, AV.os 4 0 n), (7, AV.sl (List.map encI od)), (10, goB true)]
 [Row.box [AV.sl ks, AV.sl bs, goI p, goI q, AV.sl (List.map encB bl)], Row.arr 1 (List.map encI ab1),
 Row.arr 1 (List.map encI dp1),
 Row.box
 [AV.os 1 0 (List.length (List.replicate (List.length (List.map encB bl)) [goI 0])),
 AV.os 2 0 (List.length (List.replicate (List.length (List.map encB bl)) [goI 0]))],
 Row.arr 1 (List.map encI pl2)])
 (Ex.exit 4,
 mkS 172 [(4, AV.pt 3 0 0), (7, AV.sl (List.map encI od))]
 [Row.box [AV.sl ks, AV.sl bs, goI p, goI q, AV.sl (List.map encB bl)],
 Row.arr 1 (List.map encI ab2), Row.arr 1 (List.map encI dp1),
 Row.box
 [AV.os 1 0 (List.length (List.replicate (List.length (List.map encB bl)) [goI 0])),
 AV.os 2 0 (List.length (List.replicate (List.length (List.map encB bl)) [goI 0]))],
 Row.arr 1 (List.map encI pl2)]) ∧
 LoopTo Tryd.prog H (H 38) 0 (loopOf Tryd.prog 38 34)
 (mkS 172
 [(4, AV.pt 3 0 0), (135, AV.sl (List.map encI od)),
 (136, goI (↑(List.length (List.map encI od)) : Int)), (137, goI 0)]
 [Row.dead, Row.arr 1 (List.map encI ab2), Row.arr 1 (List.map encI dp1),
 Row.box
 [AV.os 1 0 (List.length (List.replicate (List.length (List.map encB bl)) [goI 0])),
 AV.os 2 0 (List.length (List.replicate (List.length (List.map encB bl)) [goI 0]))],
 Row.dead])
 (Ex.exit 11,
 mkS 172 [(4, AV.pt 3 0 0)]
 [Row.dead, Row.arr 1 (List.map encI ab2), Row.arr 1 (List.map encI dp2),
 Row.box
 [AV.os 1 0 (List.length (List.replicate (List.length (List.map encB bl)) [goI 0])),
 AV.os 2 0 (List.length (List.replicate (List.length (List.map encB bl)) [goI 0]))],
 Row.dead]) ∧
 (AV.pt 0 0 0,
 [Row.box
 [AV.os 1 0 (List.length (List.replicate (List.length (List.map encB bl)) [goI 0])),
 AV.os 2 0 (List.length (List.replicate (List.length (List.map encB bl)) [goI 0]))],
 Row.arr 1 (List.map encI ab2), Row.arr 1 (List.map encI dp2)],
 []) =
 r) := by kernel_rfl
theorem td48_5 (X : List AV) (n : Nat) (ab : List Int) (dp : List Int) (pl : List Int) (k : Int) (i : Nat) (r : Ex × St) : (turnT Tryd.prog H (fun f args sto => CT.of (F0 f args sto)) L0 false (H 38) 0 (loopOf Tryd.prog 38 5)
 (mkS 172 [(1, AV.pt 0 0 0), (4, AV.pt 3 0 0), (5, AV.os 4 0 n), (29, goI k), (30, goI (↑i : Int))] (gS X n ab dp pl))
 r) = (TB (decide ((↑i : Int) < k))
 ((0 ≤ (↑i : Int) ∧ (↑i : Int) < (↑n : Int) ∧ 0 + i < List.length (List.map encI ab)) ∧
 Option.map List.length (List.map encI ab)[0 + i]? = some 1 ∧
 (0 ≤ (↑i : Int) ∧ (↑i : Int) < (↑n : Int) ∧ 0 + i < List.length (List.map encI dp)) ∧
 Option.map List.length (List.map encI dp)[0 + i]? = some 1 ∧
 (0 ≤ (↑i : Int) ∧ (↑i : Int) < (↑n : Int) ∧ 0 + i < List.length (List.map encI pl)) ∧
 Option.map List.length (List.map encI pl)[0 + i]? = some 1 ∧
 LoopTo Tryd.prog H (H 38) 0 (loopOf Tryd.prog 38 5)
 (mkS 172
 [(1, AV.pt 0 0 0), (4, AV.pt 3 0 0), (5, AV.os 4 0 n), (29, goI k),
 (30, goI (IntKind.wrap IntKind.i64 ((↑i : Int) + 1)))]
 [Row.box X, Row.arr 1 (List.set (List.map encI ab) (0 + i) [goI (-1)]),
 Row.arr 1 (List.set (List.map encI dp) (0 + i) [goI (-1)]), Row.box [AV.os 1 0 n, AV.os 2 0 n],
 Row.arr 1 (List.set (List.map encI pl) (0 + i) [goI (-1)])])
 r)
 ((Ex.exit 0,
 mkS 172 [(1, AV.pt 0 0 0), (4, AV.pt 3 0 0), (5, AV.os 4 0 n)]
 [Row.box X, Row.arr 1 (List.map encI ab), Row.arr 1 (List.map encI dp), Row.box [AV.os 1 0 n, AV.os 2 0 n],
 Row.arr 1 (List.map encI pl)]) =
 r)) := by kernel_rfl
theorem td48_11 (X : List AV) (n : Nat) (ab : List Int) (dp : List Int) (pl : List Int) (od : List Int) (l : List Int) (k : Int) (i : Nat) (r : Ex × St) : (turnT Tryd.prog H (fun f args sto => CT.of (F0 f args sto)) L0 false (H 38) 0 (loopOf Tryd.prog 38 11)
 (mkS 172
 [(1, AV.pt 0 0 0), (4, AV.pt 3 0 0), (5, AV.os 4 0 n), (7, AV.sl (List.map encI od)), (51, AV.sl (List.map encI l)),
 (52, goI k), (53, goI (↑i : Int))]
 (gS X n ab dp pl))
 r) = (TB (decide ((↑i : Int) < k))
 ((0 ≤ (↑i : Int) ∧ (List.map encI l)[i]? = some [goI (rdI (rowAt (List.map encI l) i) 0)]) ∧
 (0 ≤ rdI (rowAt (List.map encI l) i) 0 ∧
 rdI (rowAt (List.map encI l) i) 0 < (↑n : Int) ∧
 0 + Int.toNat (rdI (rowAt (List.map encI l) i) 0) < List.length (List.map encI pl)) ∧
 Option.map List.length (List.map encI pl)[0 + Int.toNat (rdI (rowAt (List.map encI l) i) 0)]? = some 1 ∧
 LoopTo Tryd.prog H (H 38) 0 (loopOf Tryd.prog 38 11)
 (mkS 172
 [(1, AV.pt 0 0 0), (4, AV.pt 3 0 0), (5, AV.os 4 0 n), (7, AV.sl (List.map encI od)),
 (51, AV.sl (List.map encI l)), (52, goI k), (53, goI (IntKind.wrap IntKind.i64 ((↑i : Int) + 1)))]
 [Row.box X, Row.arr 1 (List.map encI ab), Row.arr 1 (List.map encI dp), Row.box [AV.os 1 0 n, AV.os 2 0 n],
 Row.arr 1
 (List.set (List.map encI pl) (0 + Int.toNat (rdI (rowAt (List.map encI l) i) 0)) [goI (↑i : Int)])])
 r)
 ((Ex.exit 2,
 mkS 172 [(1, AV.pt 0 0 0), (4, AV.pt 3 0 0), (5, AV.os 4 0 n), (7, AV.sl (List.map encI od))]
 [Row.box X, Row.arr 1 (List.map encI ab), Row.arr 1 (List.map encI dp), Row.box [AV.os 1 0 n, AV.os 2 0 n],
 Row.arr 1 (List.map encI pl)]) =
 r)) := by kernel_rfl
theorem td48_16 (ks : List (List AV)) (bs : List (List AV)) (p : Int) (q : Int) (bl : List XB) (n : Nat) (ab : List Int) (dp : List Int) (pl : List Int) (od : List Int) (ab2 : List Int) (c : Bool) (c2 : Bool) (r : Ex × St) : (turnT Tryd.prog H (fun f args sto => CT.of (F0 f args sto)) (LG n od [] [] [] [] ab2 [] c2 0) false (H 38) 0
 (loopOf Tryd.prog 38 16)
 (mkS 172 [(1, AV.pt 0 0 0), (4, AV.pt 3 0 0), (5, AV.os 4 0 n), (7, AV.sl (List.map encI od)), (10, goB c)]
 (gS [AV.sl ks, AV.sl bs, goI p, goI q, AV.sl (List.map encB bl)] n ab dp pl))
 r) = (TB c
 (rowsOk 1 (List.map encI od) = true ∧
 ((0 ≤
 if false = true then
 if 1 < (↑(List.length (List.map encI od)) : Int) then (↑(List.length (List.map encI od)) : Int) else 1
 else if (↑(List.length (List.map encI od)) : Int) < 1 then (↑(List.length (List.map encI od)) : Int) else 1) ∧
 (if false = true then
 if 1 < (↑(List.length (List.map encI od)) : Int) then (↑(List.length (List.map encI od)) : Int) else 1
 else if (↑(List.length (List.map encI od)) : Int) < 1 then (↑(List.length (List.map encI od)) : Int) else 1) ≤
 (↑(List.length (List.map encI od)) : Int)) ∧
 LoopTo Tryd.prog H (H 38) 0 (loopOf Tryd.prog 38 19)
 (mkS 172
 [(1, AV.pt 0 0 0), (4, AV.pt 3 0 0), (5, AV.os 4 0 n), (7, AV.sl (List.map encI od)), (10, goB false),
 (68,
 AV.sl
 (List.drop
 (Int.toNat
 (if false = true then
 if 1 < (↑(List.length (List.map encI od)) : Int) then (↑(List.length (List.map encI od)) : Int)
 else 1
 else
 if (↑(List.length (List.map encI od)) : Int) < 1 then (↑(List.length (List.map encI od)) : Int)
 else 1))
 (List.take (List.length (List.map encI od)) (List.map encI od)))),
 (69,
 goI
 (↑(List.length
 (List.drop
 (Int.toNat
 (if false = true then
 if 1 < (↑(List.length (List.map encI od)) : Int) then
 (↑(List.length (List.map encI od)) : Int)
 else 1
 else
 if (↑(List.length (List.map encI od)) : Int) < 1 then
 (↑(List.length (List.map encI od)) : Int)
 else 1))
 (List.take (List.length (List.map encI od)) (List.map encI od)))) :
 Int)),
 (70, goI 0)]
 [Row.box [AV.sl ks, AV.sl bs, goI p, goI q, AV.sl (List.map encB bl)], Row.arr 1 (List.map encI ab),
 Row.arr 1 (List.map encI dp), Row.box [AV.os 1 0 n, AV.os 2 0 n], Row.arr 1 (List.map encI pl)])
 (Ex.exit 6,
 mkS 172 [(1, AV.pt 0 0 0), (4, AV.pt 3 0 0), (5, AV.os 4 0 n), (7, AV.sl (List.map encI od)), (10, goB c2)]
 [Row.box [AV.sl ks, AV.sl bs, goI p, goI q, AV.sl (List.map encB bl)], Row.arr 1 (List.map encI ab2),
 Row.arr 1 (List.map encI dp), Row.box [AV.os 1 0 n, AV.os 2 0 n], Row.arr 1 (List.map encI pl)]) ∧
 LoopTo Tryd.prog H (H 38) 0 (loopOf Tryd.prog 38 16)
 (mkS 172 [(1, AV.pt 0 0 0), (4, AV.pt 3 0 0), (5, AV.os 4 0 n), (7, AV.sl (List.map encI od)), (10, goB c2)]
 [Row.box [AV.sl ks, AV.sl bs, goI p, goI q, AV.sl (List.map encB bl)], Row.arr 1 (List.map encI ab2),
 Row.arr 1 (List.map encI dp), Row.box [AV.os 1 0 n, AV.os 2 0 n], Row.arr 1 (List.map encI pl)])
 r)
 ((Ex.exit 4,
 mkS 172 [(4, AV.pt 3 0 0), (7, AV.sl (List.map encI od))]
 [Row.box [AV.sl ks, AV.sl bs, goI p, goI q, AV.sl (List.map encB bl)], Row.arr 1 (List.map encI ab),
 Row.arr 1 (List.map encI dp), Row.box [AV.os 1 0 n, AV.os 2 0 n], Row.arr 1 (List.map encI pl)]) =
 r)) := by kernel_rfl
theorem td48_19 (ks : List (List AV)) (bs : List (List AV)) (p : Int) (q : Int) (bl : List XB) (n : Nat) (ab : List Int) (dp : List Int) (pl : List Int) (od : List Int) (l : List Int) (c : Bool) (k : Int) (i : Nat) (m : Int) (r : Ex × St) : (turnT Tryd.prog H (FM 0) (LG n od [] [] [] [] [] [] false m) false (H 38) 0 (loopOf Tryd.prog 38 19)
 (mkS 172
 [(1, AV.pt 0 0 0), (4, AV.pt 3 0 0), (5, AV.os 4 0 n), (7, AV.sl (List.map encI od)), (10, goB c),
 (68, AV.sl (List.map encI l)), (69, goI k), (70, goI (↑i : Int))]
 (gS [AV.sl ks, AV.sl bs, goI p, goI q, AV.sl (List.map encB bl)] n ab dp pl))
 r) = (TB (decide ((↑i : Int) < k))
 ((0 ≤ (↑i : Int) ∧ (List.map encI l)[i]? = some [goI (rdI (rowAt (List.map encI l) i) 0)]) ∧
 TB
 (decide (rdI (rowAt (List.map encI l) i) 0 < 0) ||
 decide (rdI (rowAt (List.map encI l) i) 0 ≥ (↑(List.length (List.map encB bl)) : Int)))
 (Wf Tryd.prog H 57
 [AV.agg [AV.sl ks, AV.sl bs, goI p, goI q, AV.sl (List.map encB bl)],
 goI (rdI (rowAt (List.map encI l) i) 0)]
 [] =
 some (AV.sl [], [], []) ∧
 LoopTo Tryd.prog H (H 38) 0 (loopOf Tryd.prog 38 23)
 (mkS 172
 [(1, AV.pt 0 0 0), (4, AV.pt 3 0 0), (5, AV.os 4 0 n), (7, AV.sl (List.map encI od)), (10, goB c),
 (12, goI (rdI (rowAt (List.map encI l) i) 0)), (13, goI (-1)), (68, AV.sl (List.map encI l)),
 (69, goI k), (70, goI (↑i : Int)), (76, AV.sl []), (77, goI (↑0 : Int)), (78, goI 0)]
 [Row.box [AV.sl ks, AV.sl bs, goI p, goI q, AV.sl (List.map encB bl)], Row.arr 1 (List.map encI ab),
 Row.arr 1 (List.map encI dp), Row.box [AV.os 1 0 n, AV.os 2 0 n], Row.arr 1 (List.map encI pl)])
 (Ex.exit 8,
 mkS 172
 [(1, AV.pt 0 0 0), (4, AV.pt 3 0 0), (5, AV.os 4 0 n), (7, AV.sl (List.map encI od)), (10, goB c),
 (12, goI (rdI (rowAt (List.map encI l) i) 0)), (13, goI m), (68, AV.sl (List.map encI l)),
 (69, goI k), (70, goI (↑i : Int))]
 [Row.box [AV.sl ks, AV.sl bs, goI p, goI q, AV.sl (List.map encB bl)], Row.arr 1 (List.map encI ab),
 Row.arr 1 (List.map encI dp), Row.box [AV.os 1 0 n, AV.os 2 0 n], Row.arr 1 (List.map encI pl)]) ∧
 TB c
 ((0 ≤ rdI (rowAt (List.map encI l) i) 0 ∧
 rdI (rowAt (List.map encI l) i) 0 < (↑n : Int) ∧
 0 + Int.toNat (rdI (rowAt (List.map encI l) i) 0) < List.length (List.map encI ab)) ∧
 Option.map List.length (List.map encI ab)[0 + Int.toNat (rdI (rowAt (List.map encI l) i) 0)]? = some 1 ∧
 LoopTo Tryd.prog H (H 38) 0 (loopOf Tryd.prog 38 19)
 (mkS 172
 [(1, AV.pt 0 0 0), (4, AV.pt 3 0 0), (5, AV.os 4 0 n), (7, AV.sl (List.map encI od)),
 (10, goB true), (68, AV.sl (List.map encI l)), (69, goI k),
 (70, goI (IntKind.wrap IntKind.i64 ((↑i : Int) + 1)))]
 [Row.box [AV.sl ks, AV.sl bs, goI p, goI q, AV.sl (List.map encB bl)],
 Row.arr 1
 (List.set (List.map encI ab) (0 + Int.toNat (rdI (rowAt (List.map encI l) i) 0)) [goI m]),
 Row.arr 1 (List.map encI dp), Row.box [AV.os 1 0 n, AV.os 2 0 n], Row.arr 1 (List.map encI pl)])
 r)
 ((0 ≤ rdI (rowAt (List.map encI l) i) 0 ∧
 rdI (rowAt (List.map encI l) i) 0 < (↑n : Int) ∧
 0 + Int.toNat (rdI (rowAt (List.map encI l) i) 0) < List.length (List.map encI ab)) ∧
 cutAt 1 0 (List.map encI ab)[0 + Int.toNat (rdI (rowAt (List.map encI l) i) 0)]? =
 some [goI (rdI (rowAt (List.map encI ab) (0 + Int.toNat (rdI (rowAt (List.map encI l) i) 0))) 0)] ∧
 (0 ≤ rdI (rowAt (List.map encI l) i) 0 ∧
 rdI (rowAt (List.map encI l) i) 0 < (↑n : Int) ∧
 0 + Int.toNat (rdI (rowAt (List.map encI l) i) 0) < List.length (List.map encI ab)) ∧
 Option.map List.length (List.map encI ab)[0 + Int.toNat (rdI (rowAt (List.map encI l) i) 0)]? =
 some 1 ∧
 LoopTo Tryd.prog H (H 38) 0 (loopOf Tryd.prog 38 19)
 (mkS 172
 [(1, AV.pt 0 0 0), (4, AV.pt 3 0 0), (5, AV.os 4 0 n), (7, AV.sl (List.map encI od)),
 (10,
 goB
 !m ==
 rdI (rowAt (List.map encI ab) (0 + Int.toNat (rdI (rowAt (List.map encI l) i) 0))) 0),
 (68, AV.sl (List.map encI l)), (69, goI k),
 (70, goI (IntKind.wrap IntKind.i64 ((↑i : Int) + 1)))]
 [Row.box [AV.sl ks, AV.sl bs, goI p, goI q, AV.sl (List.map encB bl)],
 Row.arr 1
 (List.set (List.map encI ab) (0 + Int.toNat (rdI (rowAt (List.map encI l) i) 0)) [goI m]),
 Row.arr 1 (List.map encI dp), Row.box [AV.os 1 0 n, AV.os 2 0 n],
 Row.arr 1 (List.map encI pl)])
 r))
 (Wf Tryd.prog H 57
 [AV.agg [AV.sl ks, AV.sl bs, goI p, goI q, AV.sl (List.map encB bl)],
 goI (rdI (rowAt (List.map encI l) i) 0)]
 [] =
 some
 (AV.os 0 0 (List.length (U.prevO (List.map encB bl) (rdI (rowAt (List.map encI l) i) 0))),
 [Row.arr 1 (List.map encI (U.prevO (List.map encB bl) (rdI (rowAt (List.map encI l) i) 0)))], []) ∧
 LoopTo Tryd.prog H (H 38) 0 (loopOf Tryd.prog 38 23)
 (mkS 172
 [(1, AV.pt 0 0 0), (4, AV.pt 3 0 0), (5, AV.os 4 0 n), (7, AV.sl (List.map encI od)), (10, goB c),
 (12, goI (rdI (rowAt (List.map encI l) i) 0)), (13, goI (-1)), (68, AV.sl (List.map encI l)),
 (69, goI k), (70, goI (↑i : Int)),
 (76,
 AV.sl
 (List.take (List.length (U.prevO (List.map encB bl) (rdI (rowAt (List.map encI l) i) 0)))
 (List.drop 0 (List.map encI (U.prevO (List.map encB bl) (rdI (rowAt (List.map encI l) i) 0)))))),
 (77,
 goI
 (↑(List.length
 (List.take (List.length (U.prevO (List.map encB bl) (rdI (rowAt (List.map encI l) i) 0)))
 (List.drop 0
 (List.map encI (U.prevO (List.map encB bl) (rdI (rowAt (List.map encI l) i) 0)))))) :
 Int)),
 (78, goI 0)]
 [Row.box [AV.sl ks, AV.sl bs, goI p, goI q, AV.sl (List.map encB bl)], Row.arr 1 (List.map encI ab),
 Row.arr 1 (List.map encI dp), Row.box [AV.os 1 0 n, AV.os 2 0 n], Row.arr 1 (List.map encI pl)])
 (Ex.exit 8,
 mkS 172
 [(1, AV.pt 0 0 0), (4, AV.pt 3 0 0), (5, AV.os 4 0 n), (7, AV.sl (List.map encI od)), (10, goB c),
 (12, goI (rdI (rowAt (List.map encI l) i) 0)), (13, goI m), (68, AV.sl (List.map encI l)),
 (69, goI k), (70, goI (↑i : Int))]
 [Row.box [AV.sl ks, AV.sl bs, goI p, goI q, AV.sl (List.map encB bl)], Row.arr 1 (List.map encI ab),
 Row.arr 1 (List.map encI dp), Row.box [AV.os 1 0 n, AV.os 2 0 n], Row.arr 1 (List.map encI pl)]) ∧
 TB c
 ((0 ≤ rdI (rowAt (List.map encI l) i) 0 ∧
 rdI (rowAt (List.map encI l) i) 0 < (↑n : Int) ∧
 0 + Int.toNat (rdI (rowAt (List.map encI l) i) 0) < List.length (List.map encI ab)) ∧
 Option.map List.length (List.map encI ab)[0 + Int.toNat (rdI (rowAt (List.map encI l) i) 0)]? = some 1 ∧
 LoopTo Tryd.prog H (H 38) 0 (loopOf Tryd.prog 38 19)
 (mkS 172
 [(1, AV.pt 0 0 0), (4, AV.pt 3 0 0), (5, AV.os 4 0 n), (7, AV.sl (List.map encI od)),
 (10, goB true), (68, AV.sl (List.map encI l)), (69, goI k),
 (70, goI (IntKind.wrap IntKind.i64 ((↑i : Int) + 1)))]
 [Row.box [AV.sl ks, AV.sl bs, goI p, goI q, AV.sl (List.map encB bl)],
 Row.arr 1
 (List.set (List.map encI ab) (0 + Int.toNat (rdI (rowAt (List.map encI l) i) 0)) [goI m]),
 Row.arr 1 (List.map encI dp), Row.box [AV.os 1 0 n, AV.os 2 0 n], Row.arr 1 (List.map encI pl)])
 r)
 ((0 ≤ rdI (rowAt (List.map encI l) i) 0 ∧
 rdI (rowAt (List.map encI l) i) 0 < (↑n : Int) ∧
 0 + Int.toNat (rdI (rowAt (List.map encI l) i) 0) < List.length (List.map encI ab)) ∧
 cutAt 1 0 (List.map encI ab)[0 + Int.toNat (rdI (rowAt (List.map encI l) i) 0)]? =
 some [goI (rdI (rowAt (List.map encI ab) (0 + Int.toNat (rdI (rowAt (List.map encI l) i) 0))) 0)] ∧
 (0 ≤ rdI (rowAt (List.map encI l) i) 0 ∧
 rdI (rowAt (List.map encI l) i) 0 < (↑n : Int) ∧
 0 + Int.toNat (rdI (rowAt (List.map encI l) i) 0) < List.length (List.map encI ab)) ∧
 Option.map List.length (List.map encI ab)[0 + Int.toNat (rdI (rowAt (List.map encI l) i) 0)]? =
 some 1 ∧
 LoopTo Tryd.prog H (H 38) 0 (loopOf Tryd.prog 38 19)
 (mkS 172
 [(1, AV.pt 0 0 0), (4, AV.pt 3 0 0), (5, AV.os 4 0 n), (7, AV.sl (List.map encI od)),
 (10,
 goB
 !m ==
 rdI (rowAt (List.map encI ab) (0 + Int.toNat (rdI (rowAt (List.map encI l) i) 0))) 0),
 (68, AV.sl (List.map encI l)), (69, goI k),
 (70, goI (IntKind.wrap IntKind.i64 ((↑i : Int) + 1)))]
 [Row.box [AV.sl ks, AV.sl bs, goI p, goI q, AV.sl (List.map encB bl)],
 Row.arr 1
 (List.set (List.map encI ab) (0 + Int.toNat (rdI (rowAt (List.map encI l) i) 0)) [goI m]),
 Row.arr 1 (List.map encI dp), Row.box [AV.os 1 0 n, AV.os 2 0 n],
 Row.arr 1 (List.map encI pl)])
 r)))
 ((Ex.exit 6,
 mkS 172 [(1, AV.pt 0 0 0), (4, AV.pt 3 0 0), (5, AV.os 4 0 n), (7, AV.sl (List.map encI od)), (10, goB c)]
 [Row.box [AV.sl ks, AV.sl bs, goI p, goI q, AV.sl (List.map encB bl)], Row.arr 1 (List.map encI ab),
 Row.arr 1 (List.map encI dp), Row.box [AV.os 1 0 n, AV.os 2 0 n], Row.arr 1 (List.map encI pl)]) =
 r)) := by kernel_rfl
theorem td48_23 (X : List AV) (n : Nat) (ab : List Int) (dp : List Int) (pl : List Int) (od : List Int) (l : List Int) (pv : List Int) (c : Bool) (k : Int) (i : Int) (b : Int) (x : Int) (k2 : Int) (j : Nat) (m : Int) (r : Ex × St) : (turnT Tryd.prog H (FM m) L0 false (H 38) 0 (loopOf Tryd.prog 38 23)
 (mkS 172
 [(1, AV.pt 0 0 0), (4, AV.pt 3 0 0), (5, AV.os 4 0 n), (7, AV.sl (List.map encI od)), (10, goB c), (12, goI b),
 (13, goI x), (68, AV.sl (List.map encI l)), (69, goI k), (70, goI i), (76, AV.sl (List.map encI pv)),
 (77, goI k2), (78, goI (↑j : Int))]
 (gS X n ab dp pl))
 r) = (TB (decide ((↑j : Int) < k2))
 ((0 ≤ (↑j : Int) ∧ (List.map encI pv)[j]? = some [goI (rdI (rowAt (List.map encI pv) j) 0)]) ∧
 (0 ≤ rdI (rowAt (List.map encI pv) j) 0 ∧
 rdI (rowAt (List.map encI pv) j) 0 < (↑n : Int) ∧
 0 + Int.toNat (rdI (rowAt (List.map encI pv) j) 0) < List.length (List.map encI pl)) ∧
 cutAt 1 0 (List.map encI pl)[0 + Int.toNat (rdI (rowAt (List.map encI pv) j) 0)]? =
 some [goI (rdI (rowAt (List.map encI pl) (0 + Int.toNat (rdI (rowAt (List.map encI pv) j) 0))) 0)] ∧
 TB (decide (rdI (rowAt (List.map encI pl) (0 + Int.toNat (rdI (rowAt (List.map encI pv) j) 0))) 0 < 0))
 (LoopTo Tryd.prog H (H 38) 0 (loopOf Tryd.prog 38 23)
 (mkS 172
 [(1, AV.pt 0 0 0), (4, AV.pt 3 0 0), (5, AV.os 4 0 n), (7, AV.sl (List.map encI od)), (10, goB c),
 (12, goI b), (13, goI x), (68, AV.sl (List.map encI l)), (69, goI k), (70, goI i),
 (76, AV.sl (List.map encI pv)), (77, goI k2), (78, goI (IntKind.wrap IntKind.i64 ((↑j : Int) + 1)))]
 [Row.box X, Row.arr 1 (List.map encI ab), Row.arr 1 (List.map encI dp),
 Row.box [AV.os 1 0 n, AV.os 2 0 n], Row.arr 1 (List.map encI pl)])
 r)
 (TB (!rdI (rowAt (List.map encI pv) j) 0 == 0)
 ((0 ≤ rdI (rowAt (List.map encI pv) j) 0 ∧
 rdI (rowAt (List.map encI pv) j) 0 < (↑n : Int) ∧
 0 + Int.toNat (rdI (rowAt (List.map encI pv) j) 0) < List.length (List.map encI ab)) ∧
 cutAt 1 0 (List.map encI ab)[0 + Int.toNat (rdI (rowAt (List.map encI pv) j) 0)]? =
 some [goI (rdI (rowAt (List.map encI ab) (0 + Int.toNat (rdI (rowAt (List.map encI pv) j) 0))) 0)] ∧
 TB (decide (rdI (rowAt (List.map encI ab) (0 + Int.toNat (rdI (rowAt (List.map encI pv) j) 0))) 0 < 0))
 (LoopTo Tryd.prog H (H 38) 0 (loopOf Tryd.prog 38 23)
 (mkS 172
 [(1, AV.pt 0 0 0), (4, AV.pt 3 0 0), (5, AV.os 4 0 n), (7, AV.sl (List.map encI od)), (10, goB c),
 (12, goI b), (13, goI x), (68, AV.sl (List.map encI l)), (69, goI k), (70, goI i),
 (76, AV.sl (List.map encI pv)), (77, goI k2),
 (78, goI (IntKind.wrap IntKind.i64 ((↑j : Int) + 1)))]
 [Row.box X, Row.arr 1 (List.map encI ab), Row.arr 1 (List.map encI dp),
 Row.box [AV.os 1 0 n, AV.os 2 0 n], Row.arr 1 (List.map encI pl)])
 r)
 (TB (decide (x < 0))
 (LoopTo Tryd.prog H (H 38) 0 (loopOf Tryd.prog 38 23)
 (mkS 172
 [(1, AV.pt 0 0 0), (4, AV.pt 3 0 0), (5, AV.os 4 0 n), (7, AV.sl (List.map encI od)),
 (10, goB c), (12, goI b), (13, goI (rdI (rowAt (List.map encI pv) j) 0)),
 (68, AV.sl (List.map encI l)), (69, goI k), (70, goI i), (76, AV.sl (List.map encI pv)),
 (77, goI k2), (78, goI (IntKind.wrap IntKind.i64 ((↑j : Int) + 1)))]
 [Row.box X, Row.arr 1 (List.map encI ab), Row.arr 1 (List.map encI dp),
 Row.box [AV.os 1 0 n, AV.os 2 0 n], Row.arr 1 (List.map encI pl)])
 r)
 (Wf Tryd.prog H 63
 [AV.sl (List.take n (List.drop 0 (List.map encI ab))),
 AV.sl (List.take n (List.drop 0 (List.map encI pl))), goI x,
 goI (rdI (rowAt (List.map encI pv) j) 0)]
 [] =
 some (goI m, [], []) ∧
 LoopTo Tryd.prog H (H 38) 0 (loopOf Tryd.prog 38 23)
 (mkS 172
 [(1, AV.pt 0 0 0), (4, AV.pt 3 0 0), (5, AV.os 4 0 n), (7, AV.sl (List.map encI od)),
 (10, goB c), (12, goI b), (13, goI m), (68, AV.sl (List.map encI l)), (69, goI k),
 (70, goI i), (76, AV.sl (List.map encI pv)), (77, goI k2),
 (78, goI (IntKind.wrap IntKind.i64 ((↑j : Int) + 1)))]
 [Row.box X, Row.arr 1 (List.map encI ab), Row.arr 1 (List.map encI dp),
 Row.box [AV.os 1 0 n, AV.os 2 0 n], Row.arr 1 (List.map encI pl)])
 r)))
 (TB (decide (x < 0))
 (LoopTo Tryd.prog H (H 38) 0 (loopOf Tryd.prog 38 23)
 (mkS 172
 [(1, AV.pt 0 0 0), (4, AV.pt 3 0 0), (5, AV.os 4 0 n), (7, AV.sl (List.map encI od)), (10, goB c),
 (12, goI b), (13, goI (rdI (rowAt (List.map encI pv) j) 0)), (68, AV.sl (List.map encI l)),
 (69, goI k), (70, goI i), (76, AV.sl (List.map encI pv)), (77, goI k2),
 (78, goI (IntKind.wrap IntKind.i64 ((↑j : Int) + 1)))]
 [Row.box X, Row.arr 1 (List.map encI ab), Row.arr 1 (List.map encI dp),
 Row.box [AV.os 1 0 n, AV.os 2 0 n], Row.arr 1 (List.map encI pl)])
 r)
 (Wf Tryd.prog H 63
 [AV.sl (List.take n (List.drop 0 (List.map encI ab))),
 AV.sl (List.take n (List.drop 0 (List.map encI pl))), goI x,
 goI (rdI (rowAt (List.map encI pv) j) 0)]
 [] =
 some (goI m, [], []) ∧
 LoopTo Tryd.prog H (H 38) 0 (loopOf Tryd.prog 38 23)
 (mkS 172
 [(1, AV.pt 0 0 0), (4, AV.pt 3 0 0), (5, AV.os 4 0 n), (7, AV.sl (List.map encI od)), (10, goB c),
 (12, goI b), (13, goI m), (68, AV.sl (List.map encI l)), (69, goI k), (70, goI i),
 (76, AV.sl (List.map encI pv)), (77, goI k2),
 (78, goI (IntKind.wrap IntKind.i64 ((↑j : Int) + 1)))]
 [Row.box X, Row.arr 1 (List.map encI ab), Row.arr 1 (List.map encI dp),
 Row.box [AV.os 1 0 n, AV.os 2 0 n], Row.arr 1 (List.map encI pl)])
 r))))
 ((Ex.exit 8,
 mkS 172
 [(1, AV.pt 0 0 0), (4, AV.pt 3 0 0), (5, AV.os 4 0 n), (7, AV.sl (List.map encI od)), (10, goB c), (12, goI b),
 (13, goI x), (68, AV.sl (List.map encI l)), (69, goI k), (70, goI i)]
 [Row.box X, Row.arr 1 (List.map encI ab), Row.arr 1 (List.map encI dp), Row.box [AV.os 1 0 n, AV.os 2 0 n],
 Row.arr 1 (List.map encI pl)]) =
 r)) := by kernel_rfl
theorem td48_34 (n : Nat) (ab : List Int) (dp : List Int) (od : List Int) (k : Int) (i : Nat) (r : Ex × St) : (turnT Tryd.prog H (fun f args sto => CT.of (F0 f args sto)) L0 false (H 38) 0 (loopOf Tryd.prog 38 34)
 (mkS 172 [(4, AV.pt 3 0 0), (135, AV.sl (List.map encI od)), (136, goI k), (137, goI (↑i : Int))]
 [Row.dead, Row.arr 1 (List.map encI ab), Row.arr 1 (List.map encI dp), Row.box [AV.os 1 0 n, AV.os 2 0 n],
 Row.dead])
 r) = (TB (decide ((↑i : Int) < k))
 ((0 ≤ (↑i : Int) ∧ (List.map encI od)[i]? = some [goI (rdI (rowAt (List.map encI od) i) 0)]) ∧
 TB ((↑i : Int) == 0)
 ((0 ≤ rdI (rowAt (List.map encI od) i) 0 ∧
 rdI (rowAt (List.map encI od) i) 0 < (↑n : Int) ∧
 0 + Int.toNat (rdI (rowAt (List.map encI od) i) 0) < List.length (List.map encI dp)) ∧
 Option.map List.length (List.map encI dp)[0 + Int.toNat (rdI (rowAt (List.map encI od) i) 0)]? = some 1 ∧
 LoopTo Tryd.prog H (H 38) 0 (loopOf Tryd.prog 38 34)
 (mkS 172
 [(4, AV.pt 3 0 0), (135, AV.sl (List.map encI od)), (136, goI k),
 (137, goI (IntKind.wrap IntKind.i64 ((↑i : Int) + 1)))]
 [Row.dead, Row.arr 1 (List.map encI ab),
 Row.arr 1 (List.set (List.map encI dp) (0 + Int.toNat (rdI (rowAt (List.map encI od) i) 0)) [goI 0]),
 Row.box [AV.os 1 0 n, AV.os 2 0 n], Row.dead])
 r)
 ((0 ≤ rdI (rowAt (List.map encI od) i) 0 ∧
 rdI (rowAt (List.map encI od) i) 0 < (↑n : Int) ∧
 0 + Int.toNat (rdI (rowAt (List.map encI od) i) 0) < List.length (List.map encI ab)) ∧
 cutAt 1 0 (List.map encI ab)[0 + Int.toNat (rdI (rowAt (List.map encI od) i) 0)]? =
 some [goI (rdI (rowAt (List.map encI ab) (0 + Int.toNat (rdI (rowAt (List.map encI od) i) 0))) 0)] ∧
 (0 ≤ rdI (rowAt (List.map encI ab) (0 + Int.toNat (rdI (rowAt (List.map encI od) i) 0))) 0 ∧
 rdI (rowAt (List.map encI ab) (0 + Int.toNat (rdI (rowAt (List.map encI od) i) 0))) 0 < (↑n : Int) ∧
 0 + Int.toNat (rdI (rowAt (List.map encI ab) (0 + Int.toNat (rdI (rowAt (List.map encI od) i) 0))) 0) <
 List.length (List.map encI dp)) ∧
 cutAt 1 0
 (List.map encI
 dp)[0 +
 Int.toNat
 (rdI (rowAt (List.map encI ab) (0 + Int.toNat (rdI (rowAt (List.map encI od) i) 0))) 0)]? =
 some
 [goI
 (rdI
 (rowAt (List.map encI dp)
 (0 +
 Int.toNat
 (rdI (rowAt (List.map encI ab) (0 + Int.toNat (rdI (rowAt (List.map encI od) i) 0))) 0)))
 0)] ∧
 (0 ≤ rdI (rowAt (List.map encI od) i) 0 ∧
 rdI (rowAt (List.map encI od) i) 0 < (↑n : Int) ∧
 0 + Int.toNat (rdI (rowAt (List.map encI od) i) 0) < List.length (List.map encI dp)) ∧
 Option.map List.length (List.map encI dp)[0 + Int.toNat (rdI (rowAt (List.map encI od) i) 0)]? =
 some 1 ∧
 LoopTo Tryd.prog H (H 38) 0 (loopOf Tryd.prog 38 34)
 (mkS 172
 [(4, AV.pt 3 0 0), (135, AV.sl (List.map encI od)), (136, goI k),
 (137, goI (IntKind.wrap IntKind.i64 ((↑i : Int) + 1)))]
 [Row.dead, Row.arr 1 (List.map encI ab),
 Row.arr 1
 (List.set (List.map encI dp) (0 + Int.toNat (rdI (rowAt (List.map encI od) i) 0))
 [goI
 (IntKind.wrap IntKind.i64
 (rdI
 (rowAt (List.map encI dp)
 (0 +
 Int.toNat
 (rdI
 (rowAt (List.map encI ab)
 (0 + Int.toNat (rdI (rowAt (List.map encI od) i) 0)))
 0)))
 0 +
 1))]),
 Row.box [AV.os 1 0 n, AV.os 2 0 n], Row.dead])
 r))
 ((Ex.exit 11,
 mkS 172 [(4, AV.pt 3 0 0)]
 [Row.dead, Row.arr 1 (List.map encI ab), Row.arr 1 (List.map encI dp), Row.box [AV.os 1 0 n, AV.os 2 0 n],
 Row.dead]) =
 r)) := by kernel_rfl
section
variable {nx : Int → List Int} {n : Nat} {od pl ab : List Int} (B : Base nx n od pl) (T : Tr n pl ab)
include B T
theorem loopt63 : ∀ (k a b : Nat), Df n pl ab a → Df n pl ab b → U.nt pl a + U.nt pl b ≤ k →
    LoopTo Tryd.prog H (H 63) 0 (loopOf Tryd.prog 63 1) (mkS 30 [(0, .sl (ab.map encI)), (1, .sl (pl.map encI)), (2, goI a), (3, goI b)]) (.exit 0, mkS 30 [(2, goI (U.meetS ab pl k a b))]) := by
  intro k
  have same : ∀ a : Nat, LoopTo Tryd.prog H (H 63) 0 (loopOf Tryd.prog 63 1) (mkS 30 [(0, .sl (ab.map encI)), (1, .sl (pl.map encI)), (2, goI a), (3, goI a)]) (.exit 0, mkS 30 [(2, goI a)]) := fun a => by
    refine turnK (td63_1 ab pl a a _) ?_
    rw [show (!((a : Int) == (a : Int))) = false by simp]
    exact rfl
  induction k with
  | zero =>
    intro a b ha hb hk
    have h1 := ha.2.1
    have h2 := hb.2.1
    have : a = b := B.inj ha.1 hb.1 h1 (by omega)
    subst this
    exact same a
  | succ k ih =>
    intro a b ha hb hk
    unfold U.meetS
    by_cases e : a = b
    · subst e
      rw [if_pos rfl]
      exact same a
    rw [if_neg (by omega), Int.toNat_natCast, Int.toNat_natCast]
    have hp0 := B.p0
    have h1 := ha.2.1
    have h2 := hb.2.1
    have ha1 : a < pl.length := by rw [B.len]; exact ha.1
    have hb1 : b < pl.length := by rw [B.len]; exact hb.1
    have ha2 : a < ab.length := by rw [T.len]; exact ha.1
    have hb2 : b < ab.length := by rw [T.len]; exact hb.1
    have eb : (!((a : Int) == (b : Int))) = true := by rw [Bool.not_eq_true', beq_eq_false_iff_ne]; omega
    by_cases hc : U.nt pl a > U.nt pl b
    · rw [if_pos hc]
      have h0 : 0 ≤ U.nt ab a := by
        rcases ha.2.2 with q | q
        · subst q; omega
        · exact q
      obtain ⟨g1, g2⟩ := df_up B T ha h0
      have ihn := ih (U.nt ab a).toNat b g1 hb (by omega)
      rw [show (((U.nt ab a).toNat : Nat) : Int) = U.nt ab a by omega] at ihn
      refine turnK (td63_1 ab pl a b _) ?_
      rw [eb, Int.toNat_natCast, Int.toNat_natCast, rowI ha1, getI ha1, rowI hb1, getI hb1, rowI ha2, getI ha2, rowI hb2, getI hb2]
      simp only [rdI, List.getD_cons_zero, int_goI]
      rw [decide_eq_true hc]
      exact ⟨⟨by omega, by trivial⟩, ⟨by omega, by trivial⟩, ⟨by omega, by trivial⟩, ihn⟩
    · rw [if_neg hc]
      have hne : U.nt pl a ≠ U.nt pl b := fun q => e (B.inj ha.1 hb.1 h1 q)
      have h0 : 0 ≤ U.nt ab b := by
        rcases hb.2.2 with q | q
        · subst q; omega
        · exact q
      obtain ⟨g1, g2⟩ := df_up B T hb h0
      have ihn := ih a (U.nt ab b).toNat ha g1 (by omega)
      rw [show (((U.nt ab b).toNat : Nat) : Int) = U.nt ab b by omega] at ihn
      refine turnK (td63_1 ab pl a b _) ?_
      rw [eb, Int.toNat_natCast, Int.toNat_natCast, rowI ha1, getI ha1, rowI hb1, getI hb1, rowI ha2, getI ha2, rowI hb2, getI hb2]
      simp only [rdI, List.getD_cons_zero, int_goI]
      rw [decide_eq_false hc]
      exact ⟨⟨by omega, by trivial⟩, ⟨by omega, by trivial⟩, ⟨by omega, by trivial⟩, ihn⟩
theorem wd63 (k a b : Nat) (ha : Df n pl ab a) (hb : Df n pl ab b) (hk : U.nt pl a + U.nt pl b ≤ k) : Wf Tryd.prog H 63 [.sl (ab.map encI), .sl (pl.map encI), goI a, goI b] [] = some (goI (U.meetS ab pl k a b), [], []) :=
  runK (td63 ab pl a b (U.meetS ab pl k a b) _) ⟨loopt63 B T k a b ha hb hk, rfl⟩
end
theorem mem_prevFrom (bl : List XB) (n : Int) : ∀ (d i : Nat) (x : Int), x ∈ U.prevFrom bl n d i ↔ (0 ≤ n ∧ n < bl.length) ∧ ∃ j : Nat, i ≤ j ∧ j < i + d ∧ x = j ∧ n ∈ U.nextAt bl j
  | 0, i, x => by
    constructor
    · intro h; simp [U.prevFrom] at h
    · rintro ⟨_, j, h1, h2, _⟩; omega
  | d + 1, i, x => by
    have ih := mem_prevFrom bl n d (i + 1) x
    unfold U.prevFrom
    rw [List.mem_append, ih]
    constructor
    · rintro (h | ⟨h1, j, h2, h3, h4, h5⟩)
      · split at h
        · rename_i hc
          rw [Bool.and_eq_true, Bool.and_eq_true, decide_eq_true_eq, decide_eq_true_eq, hasI_iff] at hc
          rw [List.mem_singleton] at h
          exact ⟨⟨hc.1, hc.2.1⟩, i, Nat.le_refl _, by omega, h, hc.2.2⟩
        · simp at h
      · exact ⟨h1, j, by omega, by omega, h4, h5⟩
    · rintro ⟨h1, j, h2, h3, h4, h5⟩
      by_cases e : j = i
      · subst e
        left
        rw [if_pos (by rw [Bool.and_eq_true, Bool.and_eq_true, decide_eq_true_eq, decide_eq_true_eq, hasI_iff]; exact ⟨h1.1, h1.2, h5⟩), List.mem_singleton]
        exact h4
      · exact .inr ⟨h1, j, by omega, by omega, h4, h5⟩
theorem prev_ok (bl : List XB) (b : Nat) (hb : b < bl.length) (x : Int) : x ∈ U.prevAt bl b ↔ ∃ c : Nat, c < bl.length ∧ x = c ∧ (b : Int) ∈ U.nextAt bl c := by
  unfold U.prevAt
  rw [mem_prevFrom]
  constructor
  · rintro ⟨_, j, h1, h2, h3, h4⟩; exact ⟨j, by omega, h3, h4⟩
  · rintro ⟨c, h1, h2, h3⟩; exact ⟨⟨by omega, by omega⟩, c, Nat.zero_le _, by omega, h2, h3⟩
def rep2 (i d : Nat) : List Int := List.replicate i (-1) ++ List.replicate d 0
theorem rep2_set (i d : Nat) : (rep2 i (d + 1)).set i (-1) = rep2 (i + 1) d := by
  unfold rep2
  rw [List.set_append, if_neg (by simp), List.length_replicate, Nat.sub_self, List.replicate_succ (n := d), List.set_cons_zero, List.replicate_succ' (n := i), List.append_assoc]
  rfl
theorem rep2_len (i d : Nat) : (rep2 i d).length = i + d := by unfold rep2; simp
theorem loopt48_5 (X : List AV) (n : Nat) (hn : n ≤ 3000) : ∀ (d i : Nat), i + d = n →
    LoopTo Tryd.prog H (H 38) 0 (loopOf Tryd.prog 38 5) (mkS 172 [(1, .pt 0 0 0), (4, .pt 3 0 0), (5, .os 4 0 n), (29, goI n), (30, goI i)] (gS X n (rep2 i d) (rep2 i d) (rep2 i d)))
      (.exit 0, mkS 172 [(1, .pt 0 0 0), (4, .pt 3 0 0), (5, .os 4 0 n)] (gS X n (List.replicate n (-1)) (List.replicate n (-1)) (List.replicate n (-1))))
  | 0, i, hd => by
    have : i = n := by omega
    subst this
    have e : rep2 i 0 = List.replicate i (-1) := List.append_nil _
    rw [e]
    refine turnK (td48_5 X i _ _ _ i i _) ?_
    rw [decide_eq_false (by omega)]
    exact rfl
  | d + 1, i, hd => by
    have ih := loopt48_5 X n hn d (i + 1) (by omega)
    have hl := rep2_len i (d + 1)
    have hil : i < (rep2 i (d + 1)).length := by omega
    have hin : 0 ≤ (i : Int) ∧ (i : Int) < (n : Int) ∧ i < ((rep2 i (d + 1)).map encI).length := ⟨by omega, by omega, by rw [List.length_map]; omega⟩
    refine turnK (td48_5 X n _ _ _ n i _) ?_
    rw [decide_eq_true (by omega), Nat.zero_add, getI hil, wrapS (show i < n by omega) (by omega), set_mapI, rep2_set]
    exact ⟨hin, rfl, hin, rfl, hin, rfl, ih⟩
theorem loopt48_11 (X : List AV) (n : Nat) (hn : n ≤ 3000) (ab dp od : List Int) (ho : od.length ≤ 3000) (hr : ∀ x ∈ od, 0 ≤ x ∧ x < n) : ∀ (d i : Nat) (pl : List Int), i + d = od.length → pl.length = n →
    LoopTo Tryd.prog H (H 38) 0 (loopOf Tryd.prog 38 11) (mkS 172 [(1, .pt 0 0 0), (4, .pt 3 0 0), (5, .os 4 0 n), (7, .sl (od.map encI)), (51, .sl (od.map encI)), (52, goI od.length), (53, goI i)] (gS X n ab dp pl))
      (.exit 2, mkS 172 [(1, .pt 0 0 0), (4, .pt 3 0 0), (5, .os 4 0 n), (7, .sl (od.map encI))] (gS X n ab dp (U.placeS (od.drop i) i pl)))
  | 0, i, pl, hd, hp => by
    rw [List.drop_of_length_le (by omega)]
    refine turnK (td48_11 X n ab dp pl od od od.length i _) ?_
    rw [decide_eq_false (by omega)]
    exact rfl
  | d + 1, i, pl, hd, hp => by
    have hi : i < od.length := by omega
    have ed : od.drop i = U.nt od i :: od.drop (i + 1) := drop_cons' od hi
    obtain ⟨x0, x1⟩ := hr (U.nt od i) (getD_mem hi)
    have hx : (U.nt od i).toNat < pl.length := by omega
    have ih := loopt48_11 X n hn ab dp od ho hr d (i + 1) (pl.set (U.nt od i).toNat (i : Int)) (by omega) (by rw [List.length_set]; exact hp)
    have e1 : rdI (rowAt (od.map encI) i) 0 = U.nt od i := by rw [rowI hi]; rfl
    rw [ed]
    unfold U.placeS
    refine turnK (td48_11 X n ab dp pl od od od.length i _) ?_
    rw [decide_eq_true (by omega), e1, getI hi, Nat.zero_add, getI hx, wrapS hi (by omega), set_mapI]
    exact ⟨⟨by omega, rfl⟩, ⟨by omega, by omega, by rw [List.length_map]; omega⟩, rfl, ih⟩
section
variable {nx : Int → List Int} {n : Nat} {od pl ab : List Int} (B : Base nx n od pl) (hn : n ≤ 3000)
include B hn
theorem loopt48_23 (T : Tr n pl ab) (S : Sound nx n pl ab) (X : List AV) (dp l : List Int) (c : Bool) (k i b : Int) (pv : List Int) (hpl : pv.length ≤ 3000) (hpv : ∀ x ∈ pv, 0 ≤ x ∧ x < n) (K : Nat) (hK : 2 * (od.length : Int) ≤ K) : ∀ (d j : Nat) (x : Int), j + d = pv.length → (x = -1 ∨ ∃ m : Nat, x = m ∧ Df n pl ab m) →
    LoopTo Tryd.prog H (H 38) 0 (loopOf Tryd.prog 38 23) (mkS 172 [(1, .pt 0 0 0), (4, .pt 3 0 0), (5, .os 4 0 n), (7, .sl (od.map encI)), (10, goB c), (12, goI b), (13, goI x), (68, .sl (l.map encI)), (69, goI k), (70, goI i), (76, .sl (pv.map encI)), (77, goI pv.length), (78, goI j)] (gS X n ab dp pl))
      (.exit 8, mkS 172 [(1, .pt 0 0 0), (4, .pt 3 0 0), (5, .os 4 0 n), (7, .sl (od.map encI)), (10, goB c), (12, goI b), (13, goI (U.nextS ab pl K (pv.drop j) x)), (68, .sl (l.map encI)), (69, goI k), (70, goI i)] (gS X n ab dp pl))
  | 0, j, x, hd, hx => by
    rw [List.drop_of_length_le (by omega)]
    refine turnK (td48_23 X n ab dp pl od l pv c k i b x pv.length j 0 _) ?_
    rw [decide_eq_false (by omega)]
    exact rfl
  | d + 1, j, x, hd, hx => by
    have hj : j < pv.length := by omega
    have ed : pv.drop j = U.nt pv j :: pv.drop (j + 1) := drop_cons' pv hj
    obtain ⟨a0, a1⟩ := hpv (U.nt pv j) (getD_mem hj)
    have e1 : rdI (rowAt (pv.map encI) j) 0 = U.nt pv j := by rw [rowI hj]; rfl
    have hgj := getI hj
    generalize U.nt pv j = y at ed a0 a1 e1 hgj
    obtain ⟨a, rfl⟩ := Int.eq_ofNat_of_zero_le a0
    have han : a < n := by omega
    have ha1 : a < pl.length := by rw [B.len]; exact han
    have ha2 : a < ab.length := by rw [T.len]; exact han
    have e2 : rdI (rowAt (pl.map encI) a) 0 = U.nt pl a := by rw [rowI ha1]; rfl
    have e3 : rdI (rowAt (ab.map encI) a) 0 = U.nt ab a := by rw [rowI ha2]; rfl
    have t1 : List.take n (List.drop 0 (ab.map encI)) = ab.map encI := by have := take_map encI ab; rw [T.len] at this; exact this
    have t2 : List.take n (List.drop 0 (pl.map encI)) = pl.map encI := by have := take_map encI pl; rw [B.len] at this; exact this
    have in1 : 0 ≤ (a : Int) ∧ (a : Int) < (n : Int) ∧ a < (pl.map encI).length := ⟨by omega, by omega, by rw [List.length_map]; omega⟩
    have in2 : 0 ≤ (a : Int) ∧ (a : Int) < (n : Int) ∧ a < (ab.map encI).length := ⟨by omega, by omega, by rw [List.length_map]; omega⟩
    rw [ed]
    unfold U.nextS U.noDef
    rw [Int.toNat_natCast]
    have skip := loopt48_23 T S X dp l c k i b pv hpl hpv K hK d (j + 1) x (by omega) hx
    have cont : Df n pl ab a → TB (decide (x < 0)) (LoopTo Tryd.prog H (H 38) 0 (loopOf Tryd.prog 38 23) (mkS 172 [(1, .pt 0 0 0), (4, .pt 3 0 0), (5, .os 4 0 n), (7, .sl (od.map encI)), (10, goB c), (12, goI b), (13, goI a), (68, .sl (l.map encI)), (69, goI k), (70, goI i), (76, .sl (pv.map encI)), (77, goI pv.length), (78, goI ((j + 1 : Nat) : Int))] (gS X n ab dp pl)) (.exit 8, mkS 172 [(1, .pt 0 0 0), (4, .pt 3 0 0), (5, .os 4 0 n), (7, .sl (od.map encI)), (10, goB c), (12, goI b), (13, goI (U.nextS ab pl K (pv.drop (j + 1)) (if x < 0 then (a : Int) else U.meetS ab pl K x a))), (68, .sl (l.map encI)), (69, goI k), (70, goI i)] (gS X n ab dp pl)))
        (Wf Tryd.prog H 63 [.sl (ab.map encI), .sl (pl.map encI), goI x, goI a] [] = some (goI (U.meetS ab pl K x a), [], []) ∧ LoopTo Tryd.prog H (H 38) 0 (loopOf Tryd.prog 38 23) (mkS 172 [(1, .pt 0 0 0), (4, .pt 3 0 0), (5, .os 4 0 n), (7, .sl (od.map encI)), (10, goB c), (12, goI b), (13, goI (U.meetS ab pl K x a)), (68, .sl (l.map encI)), (69, goI k), (70, goI i), (76, .sl (pv.map encI)), (77, goI pv.length), (78, goI ((j + 1 : Nat) : Int))] (gS X n ab dp pl)) (.exit 8, mkS 172 [(1, .pt 0 0 0), (4, .pt 3 0 0), (5, .os 4 0 n), (7, .sl (od.map encI)), (10, goB c), (12, goI b), (13, goI (U.nextS ab pl K (pv.drop (j + 1)) (if x < 0 then (a : Int) else U.meetS ab pl K x a))), (68, .sl (l.map encI)), (69, goI k), (70, goI i)] (gS X n ab dp pl))) := fun hda => by
      by_cases h0 : x < 0
      · rw [decide_eq_true h0, if_pos h0]
        exact loopt48_23 T S X dp l c k i b pv hpl hpv K hK d (j + 1) a (by omega) (.inr ⟨a, rfl, hda⟩)
      · rw [decide_eq_false h0, if_neg h0]
        rcases hx with e | ⟨m, e, hm⟩
        · omega
        · subst e
          have q1 := B.lt hm.1
          have q2 := B.lt han
          obtain ⟨w, w1, w2, _⟩ := meet_ok B T S K m a hm hda (by omega)
          exact ⟨wd63 B T K m a hm hda (by omega), loopt48_23 T S X dp l c k i b pv hpl hpv K hK d (j + 1) _ (by omega) (.inr ⟨w, w1, w2⟩)⟩
    refine turnK (td48_23 X n ab dp pl od l pv c k i b x pv.length j (U.meetS ab pl K x a) _) ?_
    rw [decide_eq_true (show (j : Int) < pv.length by omega), e1, hgj, Int.toNat_natCast, Nat.zero_add, e2, getI ha1, e3, getI ha2, wrapS hj (by omega), t1, t2]
    refine ⟨⟨by omega, rfl⟩, in1, rfl, ?_⟩
    by_cases hp0 : U.nt pl a < 0
    · rw [decide_eq_true hp0]
      exact skip
    · rw [decide_eq_false hp0, Bool.false_or]
      by_cases ha0 : a = 0
      · subst ha0
        have hda : Df n pl ab 0 := ⟨han, by omega, .inl rfl⟩
        exact cont hda
      · have hz : ((a : Int) == 0) = false := by rw [beq_eq_false_iff_ne]; omega
        rw [hz]
        refine ⟨in2, rfl, ?_⟩
        by_cases hp1 : U.nt ab a < 0
        · rw [decide_eq_true hp1]
          exact skip
        · rw [decide_eq_false hp1]
          exact cont ⟨han, by omega, .inr (by omega)⟩
end
end Go.Proofs.YtabdcfcnngnnoaaDoor.E
