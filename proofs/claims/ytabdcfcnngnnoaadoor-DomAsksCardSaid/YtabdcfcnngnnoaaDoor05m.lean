/- Functions, by what the evaluator asks; the theorems t.. were printed by show.txt, a program of this session. -/
import Derived.Test.YtabdcfcnngnnoaaDoor05l
import Derived.Test.YtabdcfcnngnnoaaDoorD0x
set_option linter.unusedVariables false
set_option linter.unusedSectionVars false
set_option linter.unusedSimpArgs false
set_option maxRecDepth 100000
namespace Go.Proofs.YtabdcfcnngnnoaaDoor.E
open Go
namespace U
def isortR (x : List (List AV)) : List (List AV) := (isort (decI x)).map encI
end U
def L65 (m : List Int) : Nat → St → LT := fun id st => .is (.exit 0) (mkS 28 [] [.arr 1 (m.map encI)])
def F40 (m : List Bool) (l : List Int) : CallT := fun f args sto => match f, sto with
 | 83, [.box [a1, a2, a3, a4, a5, _, _], _, _] => .is (.tup [], [.box [a1, a2, a3, a4, a5, .os 1 0 m.length, .os 2 0 l.length], .arr 1 (m.map encBo), .arr 1 (l.map encI)], [2])
 | 84, _ => .is (.tup [], [.arr 1 (l.reverse.map encI)], [])
 | _, _ => .no
def F38 (l : List Int) : CallT := fun f args sto => match f, args, sto with
 | 62, _, _ => .is (.os 0 0 l.length, [.arr 1 (l.map encI)], [])
 | 72, [.sl x], [] => .is (.clo 98 [.rp [.sl x]], [], [])
 | 71, [.clo _ [.rp [.sl x]]], [] => .is (.os 0 0 x.length, [.arr 1 (U.isortR x)], [])
 | 97, [.clo _ [.rp [.sl x]]], [] => .is (.os 0 0 x.length, [.arr 1 x], [])
 | 52, _, [.arr 1 x] => .is (.tup [], [.arr 1 (U.isortR x)], [])
 | _, _, _ => .no
def F41 (m : List Bool) (l : List Int) : CallT := fun f args sto => match f with
 | 68 => .is (.os 1 0 l.length, [.arr 1 (m.map encBo), .arr 1 (l.map encI)], [])
 | _ => .no
def L41 (o : List Int) : Nat → St → LT := fun id st => .is (.exit 0) (mkS 27 [(4, .os 2 0 o.length)] [.dead, .dead, .arr 1 (o.map encI)])
def F42 : CallT := fun f args sto => match f, args with
 | 58, [.agg [_, _, _, _, .sl b], .v (.int _ n)] => .is (.sl (U.nextR b n), [], [])
 | _, _ => .no
def L42 (wo : Int) (tn i : Nat) (m : List Bool) : Nat → St → LT := fun id st => match id, st.2 with
 | 6, _ => .is (.exit 0) (mkS 88 [(7, .os 1 0 m.length)] [.dead, .arr 1 (m.map encBo)])
 | 9, [b, _] => .is (.exit 2) (mkS 88 [(2, goI wo), (3, .pt 0 0 0), (7, .os 1 0 m.length), (8, goI tn)] [b, .arr 1 (m.map encBo)])
 | 13, [b, _] => .is (.exit 4) (mkS 88 [(2, goI wo), (3, .pt 0 0 0), (7, .os 1 0 m.length), (8, goI tn), (9, goI i)] [b, .arr 1 (m.map encBo)])
 | _, _ => .no
def F39 (m : List Bool) : CallT := fun f args sto => match f with
 | 33 => .is (.os 0 0 m.length, [.arr 1 (m.map encBo)], [])
 | _ => .no
def L39 (o : List Int) : Nat → St → LT := fun id st => .is (.exit 0) (mkS 23 [(4, .os 1 0 o.length)] [.dead, .arr 1 (o.map encI)])

theorem t65 (l : List Int) (m : List Int) (r : AV × List Row × List Nat) : (runT Tryd.prog H (fun f args sto => CT.of (F0 f args sto)) (L65 m) false 84 [AV.os 0 0 (List.length l)]
 [Row.arr 1 (List.map encI l)] fun q => q = r) = (LoopTo Tryd.prog H (H 84) 1 (loopOf Tryd.prog 84 1)
 (mkS 28
 [(0, AV.os 0 0 (List.length l)), (2, goI 0), (3, goI (IntKind.wrap IntKind.i64 ((↑(List.length l) : Int) - 1)))]
 [Row.arr 1 (List.map encI l)])
 (Ex.exit 0, mkS 28 [] [Row.arr 1 (List.map encI m)]) ∧
 (AV.tup [], [Row.arr 1 (List.map encI m)], []) = r) := by kernel_rfl
theorem t65_1 (l : List Int) (i : Nat) (j : Int) (r : Ex × St) : (turnT Tryd.prog H (fun f args sto => CT.of (F0 f args sto)) L0 false (H 84) 1 (loopOf Tryd.prog 84 1)
 (mkS 28 [(0, AV.os 0 0 (List.length l)), (2, goI (↑i : Int)), (3, goI j)] [Row.arr 1 (List.map encI l)]) r) = (TB (decide ((↑i : Int) < j))
 ((0 ≤ j ∧ j < (↑(List.length l) : Int) ∧ 0 + Int.toNat j < List.length (List.map encI l)) ∧
 cutAt 1 0 (List.map encI l)[0 + Int.toNat j]? = some [goI (rdI (rowAt (List.map encI l) (0 + Int.toNat j)) 0)] ∧
 (0 ≤ (↑i : Int) ∧ (↑i : Int) < (↑(List.length l) : Int) ∧ 0 + i < List.length (List.map encI l)) ∧
 cutAt 1 0 (List.map encI l)[0 + i]? = some [goI (rdI (rowAt (List.map encI l) (0 + i)) 0)] ∧
 (0 ≤ (↑i : Int) ∧ (↑i : Int) < (↑(List.length l) : Int) ∧ 0 + i < List.length (List.map encI l)) ∧
 Option.map List.length (List.map encI l)[0 + i]? = some 1 ∧
 (0 ≤ j ∧
 j < (↑(List.length l) : Int) ∧
 0 + Int.toNat j <
 List.length
 (List.set (List.map encI l) (0 + i)
 [goI (rdI (rowAt (List.map encI l) (0 + Int.toNat j)) 0)])) ∧
 Option.map List.length
 (List.set (List.map encI l) (0 + i)
 [goI (rdI (rowAt (List.map encI l) (0 + Int.toNat j)) 0)])[0 + Int.toNat j]? =
 some 1 ∧
 LoopTo Tryd.prog H (H 84) 1 (loopOf Tryd.prog 84 1)
 (mkS 28
 [(0, AV.os 0 0 (List.length l)), (2, goI (IntKind.wrap IntKind.i64 ((↑i : Int) + 1))),
 (3, goI (IntKind.wrap IntKind.i64 (j - 1)))]
 [Row.arr 1
 (List.set
 (List.set (List.map encI l) (0 + i)
 [goI (rdI (rowAt (List.map encI l) (0 + Int.toNat j)) 0)])
 (0 + Int.toNat j) [goI (rdI (rowAt (List.map encI l) (0 + i)) 0)])])
 r)
 ((Ex.exit 0, mkS 28 [] [Row.arr 1 (List.map encI l)]) = r)) := by kernel_rfl
theorem t40 (ks : List (List AV)) (bs : List (List AV)) (p : Int) (q : Int) (bl : List XB) (m : List Bool) (l : List Int) (r : AV × List Row × List Nat) : (runT Tryd.prog H (F40 m l) L0 false 62 [AV.agg [AV.sl ks, AV.sl bs, goI p, goI q, AV.sl (List.map encB bl)]] [] fun q =>
 q = r) = ((0 ≤ (↑(List.length (List.map encB bl)) : Int) ∧
 (↑(List.length (List.map encB bl)) : Int) ≤ (↑(List.length (List.map encB bl)) : Int) ∧
 (↑(List.length (List.map encB bl)) : Int) ≤ (↑1000000 : Int)) ∧
 Wf Tryd.prog H 83 [AV.pt 0 0 0, goI 0]
 [Row.box
 [AV.sl ks, AV.sl bs, goI p, goI q, AV.sl (List.map encB bl),
 AV.os 1 0 (List.length (List.replicate (List.length (List.map encB bl)) [goB false])), AV.os 2 0 0],
 Row.arr 1 (List.replicate (List.length (List.map encB bl)) [goB false]), Row.arr 1 []] =
 some
 (AV.tup [],
 [Row.box
 [AV.sl ks, AV.sl bs, goI p, goI q, AV.sl (List.map encB bl), AV.os 1 0 (List.length m),
 AV.os 2 0 (List.length l)],
 Row.arr 1 (List.map encBo m), Row.arr 1 (List.map encI l)],
 [2]) ∧
 Wf Tryd.prog H 84 [AV.os 0 0 (List.length l)] [Row.arr 1 (List.map encI l)] =
 some (AV.tup [], [Row.arr 1 (List.map encI (List.reverse l))], []) ∧
 (AV.os 0 0 (List.length l), [Row.arr 1 (List.map encI (List.reverse l))], []) = r) := by kernel_rfl
theorem t38 (ks : List (List AV)) (bs : List (List AV)) (p : Int) (q : Int) (bl : List XB) (l : List Int) (r : AV × List Row × List Nat) : (runT Tryd.prog H (F38 l) L0 false 55 [AV.agg [AV.sl ks, AV.sl bs, goI p, goI q, AV.sl (List.map encB bl)]] [] fun q =>
 q = r) = (Wf Tryd.prog H 62 [AV.agg [AV.sl ks, AV.sl bs, goI p, goI q, AV.sl (List.map encB bl)]] [] =
 some (AV.os 0 0 (List.length l), [Row.arr 1 (List.map encI l)], []) ∧
 Wf Tryd.prog H 72 [AV.sl (List.take (List.length l) (List.drop 0 (List.map encI l)))] [] =
 some (AV.clo 98 [AV.rp [AV.sl (List.take (List.length l) (List.drop 0 (List.map encI l)))]], [], []) ∧
 Wf Tryd.prog H 71 [AV.clo 98 [AV.rp [AV.sl (List.take (List.length l) (List.drop 0 (List.map encI l)))]]] [] =
 some
 (AV.os 0 0 (List.length (List.take (List.length l) (List.drop 0 (List.map encI l)))),
 [Row.arr 1 (U.isortR (List.take (List.length l) (List.drop 0 (List.map encI l))))], []) ∧
 (AV.sl
 (List.take (List.length (List.take (List.length l) (List.drop 0 (List.map encI l))))
 (List.drop 0 (U.isortR (List.take (List.length l) (List.drop 0 (List.map encI l)))))),
 [], []) =
 r) := by kernel_rfl
theorem t63 (l : List Int) (r : AV × List Row × List Nat) : (runT Tryd.prog H (fun f args sto => CT.of (F0 f args sto)) L0 false 72 [AV.sl (List.map encI l)] [] fun q => q = r) = ((AV.clo 98 [AV.rp [AV.sl (List.map encI l)]], [], []) = r) := by kernel_rfl
theorem t62 (l : List Int) (r : AV × List Row × List Nat) : (runT Tryd.prog H (F38 l) L0 false 71 [AV.clo 98 [AV.rp [AV.sl (List.map encI l)]]] [] fun q => q = r) = (Wf Tryd.prog H 97 [AV.clo 98 [AV.rp [AV.sl (List.map encI l)]]] [] =
 some (AV.os 0 0 (List.length (List.map encI l)), [Row.arr 1 (List.map encI l)], []) ∧
 Wf Tryd.prog H 52 [AV.os 0 0 (List.length (List.map encI l))] [Row.arr 1 (List.map encI l)] =
 some (AV.tup [], [Row.arr 1 (U.isortR (List.map encI l))], []) ∧
 (AV.os 0 0 (List.length (List.map encI l)), [Row.arr 1 (U.isortR (List.map encI l))], []) = r) := by kernel_rfl
theorem t41 (ks : List (List AV)) (bs : List (List AV)) (p : Int) (q : Int) (bl : List XB) (m : List Bool) (l : List Int) (o : List Int) (r : AV × List Row × List Nat) : (runT Tryd.prog H (F41 m l) (L41 o) false 48 [AV.agg [AV.sl ks, AV.sl bs, goI p, goI q, AV.sl (List.map encB bl)]] []
 fun q => q = r) = ((0 ≤ (↑(List.length (List.map encB bl)) : Int) ∧
 (↑(List.length (List.map encB bl)) : Int) ≤ (↑(List.length (List.map encB bl)) : Int) ∧
 (↑(List.length (List.map encB bl)) : Int) ≤ (↑1000000 : Int)) ∧
 Wf Tryd.prog H 68
 [AV.agg [AV.sl ks, AV.sl bs, goI p, goI q, AV.sl (List.map encB bl)], goI 0,
 AV.os 0 0 (List.length (List.replicate (List.length (List.map encB bl)) [goB false])), AV.nil]
 [Row.arr 1 (List.replicate (List.length (List.map encB bl)) [goB false])] =
 some (AV.os 1 0 (List.length l), [Row.arr 1 (List.map encBo m), Row.arr 1 (List.map encI l)], []) ∧
 LoopTo Tryd.prog H (H 48) 0 (loopOf Tryd.prog 48 4)
 (mkS 27
 [(3, AV.sl (List.take (List.length l) (List.drop 0 (List.map encI l)))), (4, AV.os 2 0 0),
 (5, goI (↑(List.length (List.take (List.length l) (List.drop 0 (List.map encI l)))) : Int))]
 [Row.dead, Row.dead, Row.arr 1 []])
 (Ex.exit 0, mkS 27 [(4, AV.os 2 0 (List.length o))] [Row.dead, Row.dead, Row.arr 1 (List.map encI o)]) ∧
 (AV.os 0 0 (List.length o), [Row.arr 1 (List.map encI o)], []) = r) := by kernel_rfl
theorem t41_4 (l : List Int) (out : List Int) (i : Nat) (r : Ex × St) : (turnT Tryd.prog H (fun f args sto => CT.of (F0 f args sto)) L0 false (H 48) 0 (loopOf Tryd.prog 48 4)
 (mkS 27 [(3, AV.sl (List.map encI l)), (4, AV.os 2 0 (List.length out)), (5, goI (↑i : Int))]
 [Row.dead, Row.dead, Row.arr 1 (List.map encI out)])
 r) = (TB (decide ((↑i : Int) > 0))
 ((0 ≤ IntKind.wrap IntKind.i64 ((↑i : Int) - 1) ∧
 (List.map encI l)[Int.toNat (IntKind.wrap IntKind.i64 ((↑i : Int) - 1))]? =
 some [goI (rdI (rowAt (List.map encI l) (Int.toNat (IntKind.wrap IntKind.i64 ((↑i : Int) - 1)))) 0)]) ∧
 true = true ∧
 (List.length out = List.length (List.map encI out) ∧ List.length out + 1 ≤ 1000000) ∧
 LoopTo Tryd.prog H (H 48) 0 (loopOf Tryd.prog 48 4)
 (mkS 27
 [(3, AV.sl (List.map encI l)), (4, AV.os 2 0 (List.length out + 1)),
 (5, goI (IntKind.wrap IntKind.i64 ((↑i : Int) - 1)))]
 [Row.dead, Row.dead,
 Row.arr 1
 (List.map encI out ++
 [[goI (rdI (rowAt (List.map encI l) (Int.toNat (IntKind.wrap IntKind.i64 ((↑i : Int) - 1)))) 0)]])])
 r)
 ((Ex.exit 0, mkS 27 [(4, AV.os 2 0 (List.length out))] [Row.dead, Row.dead, Row.arr 1 (List.map encI out)]) = r)) := by kernel_rfl
theorem t42 (ks : List (List AV)) (bs : List (List AV)) (p : Int) (q : Int) (bl : List XB) (fr : Int) (wo : Int) (m : List Bool) (r : AV × List Row × List Nat) : (runT Tryd.prog H F42 (L42 wo 0 0 m) false 33
 [AV.agg [AV.sl ks, AV.sl bs, goI p, goI q, AV.sl (List.map encB bl)], goI fr, goI wo] [] fun q => q = r) = ((0 ≤ (↑(List.length (List.map encB bl)) : Int) ∧
 (↑(List.length (List.map encB bl)) : Int) ≤ (↑(List.length (List.map encB bl)) : Int) ∧
 (↑(List.length (List.map encB bl)) : Int) ≤ (↑1000000 : Int)) ∧
 TB (fr == wo)
 ((AV.os 0 0 (List.length (List.replicate (List.length (List.map encB bl)) [goB false])),
 [Row.arr 1 (List.replicate (List.length (List.map encB bl)) [goB false])], []) =
 r)
 (TB (decide (fr ≥ (↑(List.length (List.map encB bl)) : Int)))
 ((AV.os 0 0 (List.length (List.replicate (List.length (List.map encB bl)) [goB false])),
 [Row.arr 1 (List.replicate (List.length (List.map encB bl)) [goB false])], []) =
 r)
 ((0 ≤ fr ∧
 fr < (↑(List.length (List.replicate (List.length (List.map encB bl)) [goB false])) : Int) ∧
 0 + Int.toNat fr < List.length (List.replicate (List.length (List.map encB bl)) [goB false])) ∧
 Option.map List.length (List.replicate (List.length (List.map encB bl)) [goB false])[0 + Int.toNat fr]? =
 some 1 ∧
 LoopTo Tryd.prog H (H 33) 0 (loopOf Tryd.prog 33 6)
 (mkS 88
 [(2, goI wo), (3, AV.pt 0 0 0),
 (7, AV.os 1 0 (List.length (List.replicate (List.length (List.map encB bl)) [goB false]))),
 (8, goI 0)]
 [Row.box [AV.sl ks, AV.sl bs, goI p, goI q, AV.sl (List.map encB bl)],
 Row.arr 1
 (List.set (List.replicate (List.length (List.map encB bl)) [goB false]) (0 + Int.toNat fr)
 [goB true])])
 (Ex.exit 0, mkS 88 [(7, AV.os 1 0 (List.length m))] [Row.dead, Row.arr 1 (List.map encBo m)]) ∧
 (AV.os 0 0 (List.length m), [Row.arr 1 (List.map encBo m)], []) = r))) := by kernel_rfl
theorem t42_6 (ks : List (List AV)) (bs : List (List AV)) (p : Int) (q : Int) (bl : List XB) (wo : Int) (tn : Nat) (met : List Bool) (m : List Bool) (r : Ex × St) : (turnT Tryd.prog H F42 (L42 wo tn 0 m) false (H 33) 0 (loopOf Tryd.prog 33 6)
 (mkS 88 [(2, goI wo), (3, AV.pt 0 0 0), (7, AV.os 1 0 (List.length met)), (8, goI (↑tn : Int))]
 [Row.box [AV.sl ks, AV.sl bs, goI p, goI q, AV.sl (List.map encB bl)], Row.arr 1 (List.map encBo met)])
 r) = (TB (decide ((↑tn : Int) < (↑(List.length (List.map encB bl)) : Int)))
 (LoopTo Tryd.prog H (H 33) 0 (loopOf Tryd.prog 33 9)
 (mkS 88 [(2, goI wo), (3, AV.pt 0 0 0), (7, AV.os 1 0 (List.length met)), (8, goI (↑tn : Int)), (9, goI 0)]
 [Row.box [AV.sl ks, AV.sl bs, goI p, goI q, AV.sl (List.map encB bl)], Row.arr 1 (List.map encBo met)])
 (Ex.exit 2,
 mkS 88 [(2, goI wo), (3, AV.pt 0 0 0), (7, AV.os 1 0 (List.length m)), (8, goI (↑tn : Int))]
 [Row.box [AV.sl ks, AV.sl bs, goI p, goI q, AV.sl (List.map encB bl)], Row.arr 1 (List.map encBo m)]) ∧
 LoopTo Tryd.prog H (H 33) 0 (loopOf Tryd.prog 33 6)
 (mkS 88
 [(2, goI wo), (3, AV.pt 0 0 0), (7, AV.os 1 0 (List.length m)),
 (8, goI (IntKind.wrap IntKind.i64 ((↑tn : Int) + 1)))]
 [Row.box [AV.sl ks, AV.sl bs, goI p, goI q, AV.sl (List.map encB bl)], Row.arr 1 (List.map encBo m)])
 r)
 ((Ex.exit 0, mkS 88 [(7, AV.os 1 0 (List.length met))] [Row.dead, Row.arr 1 (List.map encBo met)]) = r)) := by kernel_rfl
theorem t42_9 (ks : List (List AV)) (bs : List (List AV)) (p : Int) (q : Int) (bl : List XB) (wo : Int) (tn : Nat) (i : Nat) (met : List Bool) (m : List Bool) (r : Ex × St) : (turnT Tryd.prog H F42 (L42 wo tn i m) false (H 33) 0 (loopOf Tryd.prog 33 9)
 (mkS 88 [(2, goI wo), (3, AV.pt 0 0 0), (7, AV.os 1 0 (List.length met)), (8, goI (↑tn : Int)), (9, goI (↑i : Int))]
 [Row.box [AV.sl ks, AV.sl bs, goI p, goI q, AV.sl (List.map encB bl)], Row.arr 1 (List.map encBo met)])
 r) = (TB (decide ((↑i : Int) < (↑(List.length (List.map encB bl)) : Int)))
 (Wf Tryd.prog H 58 [AV.agg [AV.sl ks, AV.sl bs, goI p, goI q, AV.sl (List.map encB bl)], goI (↑i : Int)] [] =
 some (AV.sl (U.nextR (List.map encB bl) (↑i : Int)), [], []) ∧
 LoopTo Tryd.prog H (H 33) 0 (loopOf Tryd.prog 33 13)
 (mkS 88
 [(2, goI wo), (3, AV.pt 0 0 0), (7, AV.os 1 0 (List.length met)), (8, goI (↑tn : Int)), (9, goI (↑i : Int)),
 (10, AV.sl (U.nextR (List.map encB bl) (↑i : Int))), (11, goI 0)]
 [Row.box [AV.sl ks, AV.sl bs, goI p, goI q, AV.sl (List.map encB bl)], Row.arr 1 (List.map encBo met)])
 (Ex.exit 4,
 mkS 88
 [(2, goI wo), (3, AV.pt 0 0 0), (7, AV.os 1 0 (List.length m)), (8, goI (↑tn : Int)), (9, goI (↑i : Int))]
 [Row.box [AV.sl ks, AV.sl bs, goI p, goI q, AV.sl (List.map encB bl)], Row.arr 1 (List.map encBo m)]) ∧
 LoopTo Tryd.prog H (H 33) 0 (loopOf Tryd.prog 33 9)
 (mkS 88
 [(2, goI wo), (3, AV.pt 0 0 0), (7, AV.os 1 0 (List.length m)), (8, goI (↑tn : Int)),
 (9, goI (IntKind.wrap IntKind.i64 ((↑i : Int) + 1)))]
 [Row.box [AV.sl ks, AV.sl bs, goI p, goI q, AV.sl (List.map encB bl)], Row.arr 1 (List.map encBo m)])
 r)
 ((Ex.exit 2,
 mkS 88 [(2, goI wo), (3, AV.pt 0 0 0), (7, AV.os 1 0 (List.length met)), (8, goI (↑tn : Int))]
 [Row.box [AV.sl ks, AV.sl bs, goI p, goI q, AV.sl (List.map encB bl)], Row.arr 1 (List.map encBo met)]) =
 r)) := by kernel_rfl
theorem t42_13 (ks : List (List AV)) (bs : List (List AV)) (p : Int) (q : Int) (bl : List XB) (wo : Int) (tn : Nat) (i : Nat) (k : Nat) (t : List Int) (met : List Bool) (r : Ex × St) : (turnT Tryd.prog H (fun f args sto => CT.of (F0 f args sto)) L0 false (H 33) 0 (loopOf Tryd.prog 33 13)
 (mkS 88
 [(2, goI wo), (3, AV.pt 0 0 0), (7, AV.os 1 0 (List.length met)), (8, goI (↑tn : Int)), (9, goI (↑i : Int)),
 (10, AV.sl (List.map encI t)), (11, goI (↑k : Int))]
 [Row.box [AV.sl ks, AV.sl bs, goI p, goI q, AV.sl (List.map encB bl)], Row.arr 1 (List.map encBo met)])
 r) = (TB (decide ((↑k : Int) < (↑(List.length (List.map encI t)) : Int)))
 ((0 ≤ (↑i : Int) ∧ (↑i : Int) < (↑(List.length met) : Int) ∧ 0 + i < List.length (List.map encBo met)) ∧
 cutAt 1 0 (List.map encBo met)[0 + i]? = some [goB (rdB (rowAt (List.map encBo met) (0 + i)) 0)] ∧
 TB (rdB (rowAt (List.map encBo met) (0 + i)) 0)
 ((0 ≤ (↑k : Int) ∧ (List.map encI t)[k]? = some [goI (rdI (rowAt (List.map encI t) k) 0)]) ∧
 TB (decide (rdI (rowAt (List.map encI t) k) 0 ≥ 0))
 ((0 ≤ (↑k : Int) ∧ (List.map encI t)[k]? = some [goI (rdI (rowAt (List.map encI t) k) 0)]) ∧
 TB (decide (rdI (rowAt (List.map encI t) k) 0 < (↑(List.length met) : Int)))
 ((0 ≤ (↑k : Int) ∧ (List.map encI t)[k]? = some [goI (rdI (rowAt (List.map encI t) k) 0)]) ∧
 TB (!rdI (rowAt (List.map encI t) k) 0 == wo)
 ((0 ≤ (↑k : Int) ∧ (List.map encI t)[k]? = some [goI (rdI (rowAt (List.map encI t) k) 0)]) ∧
 (0 ≤ rdI (rowAt (List.map encI t) k) 0 ∧
 rdI (rowAt (List.map encI t) k) 0 < (↑(List.length met) : Int) ∧
 0 + Int.toNat (rdI (rowAt (List.map encI t) k) 0) < List.length (List.map encBo met)) ∧
 Option.map List.length
 (List.map encBo met)[0 + Int.toNat (rdI (rowAt (List.map encI t) k) 0)]? =
 some 1 ∧
 LoopTo Tryd.prog H (H 33) 0 (loopOf Tryd.prog 33 13)
 (mkS 88
 [(2, goI wo), (3, AV.pt 0 0 0), (7, AV.os 1 0 (List.length met)), (8, goI (↑tn : Int)),
 (9, goI (↑i : Int)), (10, AV.sl (List.map encI t)),
 (11, goI (IntKind.wrap IntKind.i64 ((↑k : Int) + 1)))]
 [Row.box [AV.sl ks, AV.sl bs, goI p, goI q, AV.sl (List.map encB bl)],
 Row.arr 1
 (List.set (List.map encBo met) (0 + Int.toNat (rdI (rowAt (List.map encI t) k) 0))
 [goB true])])
 r)
 (LoopTo Tryd.prog H (H 33) 0 (loopOf Tryd.prog 33 13)
 (mkS 88
 [(2, goI wo), (3, AV.pt 0 0 0), (7, AV.os 1 0 (List.length met)), (8, goI (↑tn : Int)),
 (9, goI (↑i : Int)), (10, AV.sl (List.map encI t)),
 (11, goI (IntKind.wrap IntKind.i64 ((↑k : Int) + 1)))]
 [Row.box [AV.sl ks, AV.sl bs, goI p, goI q, AV.sl (List.map encB bl)],
 Row.arr 1 (List.map encBo met)])
 r))
 (LoopTo Tryd.prog H (H 33) 0 (loopOf Tryd.prog 33 13)
 (mkS 88
 [(2, goI wo), (3, AV.pt 0 0 0), (7, AV.os 1 0 (List.length met)), (8, goI (↑tn : Int)),
 (9, goI (↑i : Int)), (10, AV.sl (List.map encI t)),
 (11, goI (IntKind.wrap IntKind.i64 ((↑k : Int) + 1)))]
 [Row.box [AV.sl ks, AV.sl bs, goI p, goI q, AV.sl (List.map encB bl)],
 Row.arr 1 (List.map encBo met)])
 r))
 (LoopTo Tryd.prog H (H 33) 0 (loopOf Tryd.prog 33 13)
 (mkS 88
 [(2, goI wo), (3, AV.pt 0 0 0), (7, AV.os 1 0 (List.length met)), (8, goI (↑tn : Int)),
 (9, goI (↑i : Int)), (10, AV.sl (List.map encI t)),
 (11, goI (IntKind.wrap IntKind.i64 ((↑k : Int) + 1)))]
 [Row.box [AV.sl ks, AV.sl bs, goI p, goI q, AV.sl (List.map encB bl)], Row.arr 1 (List.map encBo met)])
 r))
 ((Ex.exit 4,
 mkS 88
 [(2, goI wo), (3, AV.pt 0 0 0), (7, AV.os 1 0 (List.length met)), (8, goI (↑tn : Int)),
 (9, goI (↑i : Int))]
 [Row.box [AV.sl ks, AV.sl bs, goI p, goI q, AV.sl (List.map encB bl)], Row.arr 1 (List.map encBo met)]) =
 r))
 ((Ex.exit 4,
 mkS 88
 [(2, goI wo), (3, AV.pt 0 0 0), (7, AV.os 1 0 (List.length met)), (8, goI (↑tn : Int)), (9, goI (↑i : Int))]
 [Row.box [AV.sl ks, AV.sl bs, goI p, goI q, AV.sl (List.map encB bl)], Row.arr 1 (List.map encBo met)]) =
 r)) := by kernel_rfl
theorem wf63 (l : List Int) : Wf Tryd.prog H 72 [.sl (l.map encI)] [] = some (.clo 98 [.rp [.sl (l.map encI)]], [], []) := runK (t63 l _) rfl
theorem isortR_map (l : List Int) : U.isortR (l.map encI) = (U.isort l).map encI := by unfold U.isortR; rw [decI_map]
theorem wf87 (l : List Int) (hl : l.length < 1000000) : Wf Tryd.prog H 97 [.clo 98 [.rp [.sl (l.map encI)]]] [] = some (.os 0 0 (l.map encI).length, [.arr 1 (l.map encI)], []) :=
  Wf_prim (p := collectP) (by rfl) (by
    show (if 98 = 98 ∧ (l.map encI).length < 1000000 then (intL (l.map encI)).map fun x => (AV.os 0 0 (l.map encI).length, [Row.arr 1 (l.map encI)], []) else none) = _
    rw [if_pos ⟨rfl, by rw [List.length_map]; exact hl⟩, intL_map]
    rfl)
theorem wf62 (l : List Int) (hl : l.length < 1000000) : Wf Tryd.prog H 71 [.clo 98 [.rp [.sl (l.map encI)]]] [] = some (.os 0 0 l.length, [.arr 1 ((U.isort l).map encI)], []) := by
  refine runK (t62 l _) ?_
  have e : (l.map encI).length = l.length := List.length_map _
  have h := wf87 l hl
  have h2 := wf70 l hl
  rw [e] at h ⊢
  rw [isortR_map]
  exact ⟨h, h2, rfl⟩
theorem nt_set (l : List Int) (i j : Nat) (v : Int) (hi : i < l.length) : U.nt (l.set i v) j = if j = i then v else U.nt l j := getD_set l i j v hi
theorem nt_ext {a b : List Int} (hl : a.length = b.length) (h : ∀ i, i < a.length → U.nt a i = U.nt b i) : a = b := by
  apply List.ext_getElem hl
  intro i h1 h2
  have := h i h1
  unfold U.nt at this
  rw [List.getD_eq_getElem?_getD, List.getD_eq_getElem?_getD, List.getElem?_eq_getElem h1, List.getElem?_eq_getElem h2] at this
  exact this
theorem nt_rev (l : List Int) (k : Nat) (hk : k < l.length) : U.nt l.reverse k = U.nt l (l.length - 1 - k) := by
  unfold U.nt
  rw [List.getD_eq_getElem?_getD, List.getD_eq_getElem?_getD, List.getElem?_reverse hk]
theorem loop65 : ∀ (d i e : Nat) (l : List Int), e ≤ l.length → l.length < 1000000 → e ≤ i + d → i ≤ l.length →
    ∃ m, LoopTo Tryd.prog H (H 84) 1 (loopOf Tryd.prog 84 1) (mkS 28 [(0, .os 0 0 l.length), (2, goI i), (3, goI ((e : Int) - 1))] [.arr 1 (l.map encI)]) (.exit 0, mkS 28 [] [.arr 1 (m.map encI)]) ∧
      m.length = l.length ∧ ∀ k, k < l.length → U.nt m k = if i ≤ k ∧ k < e then U.nt l (i + e - 1 - k) else U.nt l k
  | d, i, e, l, he, hl, hd, hil => by
    by_cases hlt : i + 1 < e
    · obtain ⟨d, rfl⟩ : ∃ d', d = d' + 1 := ⟨d - 1, by omega⟩
      have ej : ((e : Int) - 1).toNat = e - 1 := by omega
      obtain ⟨m, h1, h2, h3⟩ := loop65 d (i + 1) (e - 1) ((l.set i (U.nt l (e - 1))).set (e - 1) (U.nt l i)) (by simp; omega) (by simp; exact hl) (by omega) (by simp; omega)
      simp only [List.length_set] at h1 h2 h3
      refine ⟨m, turnK (t65_1 l i _ _) ?_, h2, fun k hk => ?_⟩
      · have elen : (l.map encI).length = l.length := List.length_map _
        rw [decide_eq_true (by omega), ej, Nat.zero_add, Nat.zero_add, getI (show e - 1 < l.length by omega), getI (show i < l.length by omega), rowI (show e - 1 < l.length by omega), rowI (show i < l.length by omega)]
        have e1 : rdI [goI (U.nt l (e - 1))] 0 = U.nt l (e - 1) := rfl
        have e2 : rdI [goI (U.nt l i)] 0 = U.nt l i := rfl
        rw [e1, e2, set_mapI, set_mapI, getI (show e - 1 < (l.set i (U.nt l (e - 1))).length by simp; omega), wrapS (show i < l.length by omega) hl, wrap64 (by omega) (by omega)]
        rw [show (((e - 1 : Nat) : Int) - 1) = (e : Int) - 1 - 1 by omega] at h1
        refine ⟨⟨by omega, by omega, by omega⟩, rfl, ⟨by omega, by omega, by omega⟩, rfl, ⟨by omega, by omega, by omega⟩, rfl, ⟨by omega, by omega, by simp; omega⟩, rfl, h1⟩
      · rw [h3 k hk]
        have g : ∀ j, U.nt ((l.set i (U.nt l (e - 1))).set (e - 1) (U.nt l i)) j = if j = e - 1 then U.nt l i else if j = i then U.nt l (e - 1) else U.nt l j := fun j => by
          rw [nt_set _ _ _ _ (by simp; omega), nt_set _ _ _ _ (by omega)]
        rw [g, g]
        by_cases k1 : k = i
        · subst k1
          rw [if_neg (by omega), if_neg (by omega), if_pos rfl, if_pos (by omega)]
          congr 1; omega
        by_cases k2 : k = e - 1
        · subst k2
          rw [if_neg (by omega), if_pos rfl, if_pos (by omega)]
          congr 1; omega
        by_cases k3 : i ≤ k ∧ k < e
        · rw [if_pos (by omega), if_pos k3, if_neg (by omega), if_neg (by omega)]
          congr 1; omega
        · rw [if_neg (by omega), if_neg k3, if_neg k2, if_neg k1]
    · refine ⟨l, turnK (t65_1 l i _ _) ?_, rfl, fun k hk => ?_⟩
      · rw [decide_eq_false (by omega)]; exact rfl
      · split
        · congr 1; omega
        · rfl
  termination_by d => d
theorem wf65 (l : List Int) (hl : l.length < 1000000) : Wf Tryd.prog H 84 [.os 0 0 l.length] [.arr 1 (l.map encI)] = some (.tup [], [.arr 1 (l.reverse.map encI)], []) := by
  obtain ⟨m, h1, h2, h3⟩ := loop65 l.length 0 l.length l (Nat.le_refl _) hl (by omega) (by omega)
  have hm : m = l.reverse := nt_ext (by rw [List.length_reverse]; exact h2) (fun k hk => by
    rw [nt_rev l k (by omega), h3 k (by omega), if_pos (by omega), Nat.zero_add])
  subst hm
  refine runK (t65 l l.reverse _) ?_
  rw [wrap64 (by omega) (by omega)]
  exact ⟨h1, rfl⟩
section
variable (ks bs : List (List AV)) (p q : Int) (bl : List XB) (hc : CodeOk bl) (hl : bl.length ≤ 3000)
theorem skip_rep {n : Nat} (h : 0 < n) : U.skip (List.replicate n false) 0 = false := by
  obtain ⟨m, rfl⟩ : ∃ m, n = m + 1 := ⟨n - 1, by omega⟩
  unfold U.skip
  simp
theorem rep_map (n : Nat) : List.replicate n [goB false] = (List.replicate n false).map encBo := by rw [List.map_replicate]; rfl
include hc hl
theorem wf40 (h0 : 0 < bl.length) : Wf Tryd.prog H 62 [.agg [.sl ks, .sl bs, goI p, goI q, .sl (bl.map encB)]] [] = some (.os 0 0 (U.left (U.nextAt bl) bl.length).reverse.length, [.arr 1 ((U.left (U.nextAt bl) bl.length).reverse.map encI)], []) := by
  have hw := wf64 ks bs p q bl hc bl.length 0 (List.replicate bl.length false) [] (by rw [unm_rep]; exact Nat.le_refl _) (by rw [unm_rep]; simp; omega)
  have hs := skip_rep h0
  have hll := left_len (nx := U.nextAt bl) bl.length
  rw [hs] at hw
  refine runK (t40 ks bs p q bl (U.walkS (U.nextAt bl) bl.length 0 (List.replicate bl.length false, [])).1 (U.left (U.nextAt bl) bl.length) _) ?_
  have e : (bl.map encB).length = bl.length := List.length_map _
  rw [e, rep_map, show ((List.replicate bl.length false).map encBo).length = (List.replicate bl.length false).length from List.length_map _, List.length_reverse]
  exact ⟨⟨by omega, by omega, by omega⟩, hw, wf65 _ (by omega), rfl⟩
theorem wf38 (h0 : 0 < bl.length) : Wf Tryd.prog H 55 [.agg [.sl ks, .sl bs, goI p, goI q, .sl (bl.map encB)]] [] = some (.sl ((U.isort (U.left (U.nextAt bl) bl.length).reverse).map encI), [], []) := by
  have hll := left_len (nx := U.nextAt bl) bl.length
  refine runK (t38 ks bs p q bl (U.left (U.nextAt bl) bl.length).reverse _) ?_
  have hl2 : (U.left (U.nextAt bl) bl.length).reverse.length < 1000000 := by rw [List.length_reverse]; omega
  have h40 := wf40 ks bs p q bl hc hl h0
  generalize (U.left (U.nextAt bl) bl.length).reverse = l at *
  have e : (l.map encI).length = l.length := List.length_map _
  rw [take_map, e, isortR_map]
  refine ⟨h40, wf63 l, wf62 l hl2, ?_⟩
  rw [← isort_len l, take_map]
omit hc hl in
theorem loop41 (l : List Int) (hll : l.length ≤ 3000) : ∀ (i : Nat), i ≤ l.length →
    LoopTo Tryd.prog H (H 48) 0 (loopOf Tryd.prog 48 4) (mkS 27 [(3, .sl (l.map encI)), (4, .os 2 0 (l.drop i).reverse.length), (5, goI i)] [.dead, .dead, .arr 1 ((l.drop i).reverse.map encI)])
      (.exit 0, mkS 27 [(4, .os 2 0 l.reverse.length)] [.dead, .dead, .arr 1 (l.reverse.map encI)])
  | 0, hi => by
    refine turnK (t41_4 l (l.drop 0).reverse 0 _) ?_
    rw [decide_eq_false (by omega), List.drop_zero]
    exact rfl
  | i + 1, hi => by
    have ih := loop41 l hll i (by omega)
    have ei : IntKind.i64.wrap (((i + 1 : Nat) : Int) - 1) = (i : Int) := by rw [wrap64 (by omega) (by omega)]; omega
    have ed : (l.drop i).reverse = (l.drop (i + 1)).reverse ++ [U.nt l i] := by rw [drop_cons' l (show i < l.length by omega), List.reverse_cons]; rfl
    refine turnK (t41_4 l (l.drop (i + 1)).reverse (i + 1) _) ?_
    rw [ei, decide_eq_true (by omega), Int.toNat_natCast, getI (show i < l.length by omega), rowI (show i < l.length by omega)]
    rw [ed, List.length_append, List.map_append] at ih
    exact ⟨⟨by omega, rfl⟩, rfl, ⟨by rw [List.length_map], by rw [List.length_reverse, List.length_drop]; omega⟩, ih⟩
theorem wf41 (h0 : 0 < bl.length) : Wf Tryd.prog H 48 [.agg [.sl ks, .sl bs, goI p, goI q, .sl (bl.map encB)]] [] = some (.os 0 0 (U.left (U.nextAt bl) bl.length).reverse.length, [.arr 1 ((U.left (U.nextAt bl) bl.length).reverse.map encI)], []) := by
  obtain ⟨n, hn⟩ : ∃ n, bl.length = n + 1 := ⟨bl.length - 1, by omega⟩
  have hs := skip_rep h0
  have hw := wf66n ks bs p q bl hc n 0 (List.replicate bl.length false) (by rw [unm_rep]; omega) (by rw [unm_rep]; omega) hs
  rw [← hn] at hw
  have hll := left_len (nx := U.nextAt bl) bl.length
  have hloop := loop41 (U.left (U.nextAt bl) bl.length) (by omega) (U.left (U.nextAt bl) bl.length).length (Nat.le_refl _)
  rw [List.drop_length] at hloop
  refine runK (t41 ks bs p q bl (U.walkS (U.nextAt bl) bl.length 0 (List.replicate bl.length false, [])).1 (U.left (U.nextAt bl) bl.length) (U.left (U.nextAt bl) bl.length).reverse _) ?_
  have e : (bl.map encB).length = bl.length := List.length_map _
  rw [e, rep_map, show ((List.replicate bl.length false).map encBo).length = (List.replicate bl.length false).length from List.length_map _, take_map, show ((U.left (U.nextAt bl) bl.length).map encI).length = (U.left (U.nextAt bl) bl.length).length from List.length_map _]
  exact ⟨⟨by omega, by omega, by omega⟩, hw, hloop, rfl⟩
omit hc hl in
theorem loop42_13 (wo : Int) (tn i : Nat) (t : List Int) (ht : t.length ≤ 2) (N : Nat) (hi : i < N) : ∀ (d k : Nat) (met : List Bool), k + d = t.length → met.length = N →
    ∃ m, LoopTo Tryd.prog H (H 33) 0 (loopOf Tryd.prog 33 13) (mkS 88 [(2, goI wo), (3, .pt 0 0 0), (7, .os 1 0 met.length), (8, goI tn), (9, goI i), (10, .sl (t.map encI)), (11, goI k)] [.box [.sl ks, .sl bs, goI p, goI q, .sl (bl.map encB)], .arr 1 (met.map encBo)])
        (.exit 4, mkS 88 [(2, goI wo), (3, .pt 0 0 0), (7, .os 1 0 m.length), (8, goI tn), (9, goI i)] [.box [.sl ks, .sl bs, goI p, goI q, .sl (bl.map encB)], .arr 1 (m.map encBo)]) ∧ m.length = N ∧
      ∀ x, on m x ↔ on met x ∨ (on met i ∧ ∃ r ∈ t.drop k, 0 ≤ r ∧ r < N ∧ r ≠ wo ∧ r.toNat = x)
  | 0, k, met, hd, hm => by
    have elen : (t.map encI).length = t.length := List.length_map _
    refine ⟨met, turnK (t42_13 ks bs p q bl wo tn i k t met _) ?_, hm, fun x => ?_⟩
    · rw [elen, decide_eq_false (by omega)]; exact rfl
    · rw [List.drop_of_length_le (by omega)]; simp
  | d + 1, k, met, hd, hm => by
    have elen : (t.map encI).length = t.length := List.length_map _
    have hk : k < t.length := by omega
    have ed : t.drop k = U.nt t k :: t.drop (k + 1) := drop_cons' t hk
    have e1 : rdI (rowAt (t.map encI) k) 0 = U.nt t k := by rw [rowI hk]; rfl
    obtain ⟨b1, b2⟩ := rowBo (m := met) (show i < met.length by omega)
    have hin : 0 ≤ (i : Int) ∧ (i : Int) < (met.length : Int) ∧ 0 + i < (met.map encBo).length := ⟨by omega, by omega, by rw [List.length_map]; omega⟩
    cases hon : met.getD i default with
    | false =>
      refine ⟨met, turnK (t42_13 ks bs p q bl wo tn i k t met _) ?_, hm, fun x => ?_⟩
      · rw [elen, decide_eq_true (by omega), b1, b2, hon]
        exact ⟨hin, rfl, rfl⟩
      · constructor
        · exact .inl
        · rintro (h | ⟨h, _⟩)
          · exact h
          · unfold on at h; rw [hon] at h; cases h
    | true =>
      by_cases hv : 0 ≤ U.nt t k ∧ U.nt t k < met.length ∧ U.nt t k ≠ wo
      · obtain ⟨m, k1, k2, k3⟩ := loop42_13 wo tn i t ht N hi d (k + 1) (met.set (U.nt t k).toNat true) (by omega) (by rw [List.length_set]; exact hm)
        refine ⟨m, turnK (t42_13 ks bs p q bl wo tn i k t met _) ?_, k2, fun x => ?_⟩
        · rw [elen, decide_eq_true (by omega), b1, b2, hon, e1, getI hk, decide_eq_true (show U.nt t k ≥ 0 by omega), decide_eq_true hv.2.1, show (!(U.nt t k == wo)) = true by simp [hv.2.2], wrapS hk (by omega), setBo]
          obtain ⟨c1, c2⟩ := rowBo (m := met) (show (U.nt t k).toNat < met.length by omega)
          rw [c2]
          rw [List.length_set] at k1
          exact ⟨hin, rfl, ⟨by omega, rfl⟩, ⟨by omega, rfl⟩, ⟨by omega, rfl⟩, ⟨by omega, rfl⟩, ⟨by omega, by omega, by rw [List.length_map]; omega⟩, rfl, k1⟩
        · rw [k3 x, on_set x (by omega), on_set i (by omega), ed]
          constructor
          · rintro ((h | h) | ⟨_, r, h1, h2⟩)
            · exact .inl h
            · exact .inr ⟨hon, U.nt t k, by simp, hv.1, by omega, hv.2.2, h.symm⟩
            · exact .inr ⟨hon, r, List.mem_cons_of_mem _ h1, h2⟩
          · rintro (h | ⟨_, r, h1, h2, h3, h4, h5⟩)
            · exact .inl (.inl h)
            · rcases List.mem_cons.1 h1 with rfl | h1
              · exact .inl (.inr h5.symm)
              · exact .inr ⟨.inl hon, r, h1, h2, h3, h4, h5⟩
      · obtain ⟨m, k1, k2, k3⟩ := loop42_13 wo tn i t ht N hi d (k + 1) met (by omega) hm
        refine ⟨m, turnK (t42_13 ks bs p q bl wo tn i k t met _) ?_, k2, fun x => ?_⟩
        · rw [elen, decide_eq_true (by omega), b1, b2, hon, e1, getI hk, wrapS hk (by omega)]
          refine ⟨hin, rfl, ⟨by omega, rfl⟩, ?_⟩
          by_cases v0 : U.nt t k ≥ 0
          · rw [decide_eq_true v0]
            refine ⟨⟨by omega, rfl⟩, ?_⟩
            by_cases v1 : U.nt t k < met.length
            · rw [decide_eq_true v1]
              refine ⟨⟨by omega, rfl⟩, ?_⟩
              have v2 : U.nt t k = wo := Decidable.byContradiction fun e => hv ⟨v0, v1, e⟩
              rw [show (!(U.nt t k == wo)) = false by simp [v2]]
              exact k1
            · rw [decide_eq_false v1]; exact k1
          · rw [decide_eq_false v0]; exact k1
        · rw [k3 x, ed]
          constructor
          · rintro (h | ⟨h', r, h1, h2⟩)
            · exact .inl h
            · exact .inr ⟨h', r, List.mem_cons_of_mem _ h1, h2⟩
          · rintro (h | ⟨h', r, h1, h2, h3, h4, h5⟩)
            · exact .inl h
            · rcases List.mem_cons.1 h1 with rfl | h1
              · exact absurd ⟨h2, by omega, h4⟩ hv
              · exact .inr ⟨h', r, h1, h2, h3, h4, h5⟩
theorem loop42_9 (wo : Int) (tn : Nat) : ∀ (d j : Nat) (met : List Bool), j + d = bl.length → met.length = bl.length →
    ∃ m, LoopTo Tryd.prog H (H 33) 0 (loopOf Tryd.prog 33 9) (mkS 88 [(2, goI wo), (3, .pt 0 0 0), (7, .os 1 0 met.length), (8, goI tn), (9, goI j)] [.box [.sl ks, .sl bs, goI p, goI q, .sl (bl.map encB)], .arr 1 (met.map encBo)])
        (.exit 2, mkS 88 [(2, goI wo), (3, .pt 0 0 0), (7, .os 1 0 m.length), (8, goI tn)] [.box [.sl ks, .sl bs, goI p, goI q, .sl (bl.map encB)], .arr 1 (m.map encBo)]) ∧ m.length = bl.length ∧
      (∀ x, on met x → on m x) ∧ (∀ j' : Nat, j ≤ j' → j' < bl.length → on met j' → ∀ r ∈ U.nextAt bl j', 0 ≤ r → r < bl.length → r ≠ wo → on m r.toNat) ∧
      ∀ S, ClosedW (U.nextAt bl) bl.length wo S → (∀ x, on met x → S x) → ∀ x, on m x → S x
  | 0, j, met, hd, hm => by
    have elen : (bl.map encB).length = bl.length := List.length_map _
    refine ⟨met, turnK (t42_9 ks bs p q bl wo tn j met met _) ?_, hm, fun x h => h, fun j' h1 h2 => by omega, fun S _ h => h⟩
    rw [elen, decide_eq_false (by omega)]; exact rfl
  | d + 1, j, met, hd, hm => by
    have elen : (bl.map encB).length = bl.length := List.length_map _
    have hj : j < bl.length := by omega
    obtain ⟨m1, k1, k2, k3⟩ := loop42_13 ks bs p q bl wo tn j (U.nextAt bl j) (nextAt_len bl j) bl.length hj (U.nextAt bl j).length 0 met (by omega) hm
    obtain ⟨m, q1, q2, q3, q4, q5⟩ := loop42_9 wo tn d (j + 1) m1 (by omega) k2
    rw [List.drop_zero] at k3
    refine ⟨m, turnK (t42_9 ks bs p q bl wo tn j met m1 _) ?_, q2, fun x h => q3 x ((k3 x).2 (.inl h)), fun j' h1 h2 hon r hr' g0 g1 g2 => ?_, fun S hS h => q5 S hS (fun x hx => ?_)⟩
    · rw [elen, decide_eq_true (by omega), wrapS hj (by omega), nextR_map]
      exact ⟨wf16 ks bs p q bl j hc, k1, q1⟩
    · by_cases e : j' = j
      · subst e
        exact q3 _ ((k3 _).2 (.inr ⟨hon, r, hr', g0, g1, g2, rfl⟩))
      · exact q4 j' (by omega) h2 ((k3 _).2 (.inl hon)) r hr' g0 g1 g2
    · rcases (k3 x).1 hx with hx | ⟨hon, r, hr', g0, g1, g2, rfl⟩
      · exact h x hx
      · exact hS j hj (h _ hon) r hr' g0 g1 g2
theorem loop42_6 (wo : Int) : ∀ (d i : Nat) (met : List Bool), i + d = bl.length → met.length = bl.length → (ClosedW (U.nextAt bl) bl.length wo (on met) ∨ bl.length ≤ cntT met + d) →
    ∃ m, LoopTo Tryd.prog H (H 33) 0 (loopOf Tryd.prog 33 6) (mkS 88 [(2, goI wo), (3, .pt 0 0 0), (7, .os 1 0 met.length), (8, goI i)] [.box [.sl ks, .sl bs, goI p, goI q, .sl (bl.map encB)], .arr 1 (met.map encBo)])
        (.exit 0, mkS 88 [(7, .os 1 0 m.length)] [.dead, .arr 1 (m.map encBo)]) ∧ m.length = bl.length ∧
      (∀ x, on met x → on m x) ∧ ClosedW (U.nextAt bl) bl.length wo (on m) ∧ ∀ S, ClosedW (U.nextAt bl) bl.length wo S → (∀ x, on met x → S x) → ∀ x, on m x → S x
  | 0, i, met, hd, hm, hcl => by
    have elen : (bl.map encB).length = bl.length := List.length_map _
    refine ⟨met, turnK (t42_6 ks bs p q bl wo i met met _) ?_, hm, fun x h => h, ?_, fun S _ h => h⟩
    · rw [elen, decide_eq_false (by omega)]; exact rfl
    · rcases hcl with hcl | hcl
      · exact hcl
      · intro j hj _ r hr' g0 g1 g2
        exact cnt_all (by omega) _ (by omega)
  | d + 1, i, met, hd, hm, hcl => by
    have elen : (bl.map encB).length = bl.length := List.length_map _
    obtain ⟨m1, k1, k2, k3, k4, k5⟩ := loop42_9 ks bs p q bl hc hl wo i bl.length 0 met (by omega) hm
    have hc1 : ClosedW (U.nextAt bl) bl.length wo (on m1) ∨ bl.length ≤ cntT m1 + d := by
      obtain ⟨c1, c2⟩ := cnt_mono met m1 (by omega) k3
      by_cases e : cntT met = cntT m1
      · have e1 := c2 e
        left
        intro j hj hon r hr' g0 g1 g2
        exact k4 j (Nat.zero_le _) hj (by rw [e1]; exact hon) r hr' g0 g1 g2
      · rcases hcl with hcl | hcl
        · exfalso
          have : ∀ x, on m1 x → on met x := k5 (on met) hcl (fun x h => h)
          obtain ⟨c3, _⟩ := cnt_mono m1 met (by omega) this
          omega
        · right; omega
    obtain ⟨m, q1, q2, q3, q4, q5⟩ := loop42_6 wo d (i + 1) m1 (by omega) k2 hc1
    refine ⟨m, turnK (t42_6 ks bs p q bl wo i met m1 _) ?_, q2, fun x h => q3 x (k3 x h), q4, fun S hS h => q5 S hS (k5 S hS h)⟩
    rw [elen, decide_eq_true (by omega), wrapS (show i < bl.length by omega) (by omega)]
    exact ⟨k1, q1⟩
theorem wf42 (fr wo : Int) (h0 : 0 ≤ fr) : Wf Tryd.prog H 33 [.agg [.sl ks, .sl bs, goI p, goI q, .sl (bl.map encB)], goI fr, goI wo] [] = some (.os 0 0 bl.length, [.arr 1 ((U.withinB (U.nextAt bl) bl.length fr wo).map encBo)], []) := by
  have e : (bl.map encB).length = bl.length := List.length_map _
  have er : ((List.replicate bl.length false).map encBo).length = bl.length := by rw [List.length_map, List.length_replicate]
  have none' : ¬ (fr < bl.length ∧ fr ≠ wo) → List.replicate bl.length false = U.withinB (U.nextAt bl) bl.length fr wo := fun hno =>
    on_ext (by rw [withinB_len, List.length_replicate]) (fun x _ => ⟨fun h => absurd h (on_false _ _), fun h => by
      have := (withinB_on _ _ _ _ _).1 h
      exact absurd ⟨this.2.2.1, this.2.2.2.1⟩ hno⟩)
  have hb : 0 ≤ (bl.length : Int) ∧ (bl.length : Int) ≤ bl.length ∧ (bl.length : Int) ≤ 1000000 := ⟨by omega, by omega, by omega⟩
  by_cases hw : fr = wo
  · refine runK (t42 ks bs p q bl fr wo [] _) ?_
    rw [e, rep_map, er, show (fr == wo) = true by simp [hw], none' (fun h => h.2 hw)]
    exact ⟨hb, rfl⟩
  by_cases hn : fr ≥ bl.length
  · refine runK (t42 ks bs p q bl fr wo [] _) ?_
    rw [e, rep_map, er, show (fr == wo) = false by simp [hw], decide_eq_true hn, none' (fun h => by omega)]
    exact ⟨hb, rfl⟩
  have hset : ∀ x, on ((List.replicate bl.length false).set fr.toNat true) x ↔ x = fr.toNat := fun x => by
    rw [on_set x (by rw [List.length_replicate]; omega)]
    exact ⟨fun h => h.elim (fun q => absurd q (on_false _ _)) id, .inr⟩
  obtain ⟨m, k1, k2, k3, k4, k5⟩ := loop42_6 ks bs p q bl hc hl wo bl.length 0 ((List.replicate bl.length false).set fr.toNat true) (by omega) (by rw [List.length_set, List.length_replicate]) (.inr (by omega))
  have hm : m = U.withinB (U.nextAt bl) bl.length fr wo := on_ext (by rw [withinB_len, k2]) (fun x hx => by
    rw [withinB_on]
    constructor
    · intro h
      exact ⟨by omega, h0, by omega, hw, k5 (WayW (U.nextAt bl) bl.length wo fr.toNat) WayW.closed (fun y hy => by rw [(hset y).1 hy]; exact .refl) x h⟩
    · rintro ⟨_, _, _, _, h⟩
      exact h.least k4 (k3 _ ((hset _).2 rfl)))
  refine runK (t42 ks bs p q bl fr wo m _) ?_
  rw [e, rep_map, er, show (fr == wo) = false by simp [hw], decide_eq_false hn, setBo]
  obtain ⟨c1, c2⟩ := rowBo (m := List.replicate bl.length false) (show fr.toNat < (List.replicate bl.length false).length by rw [List.length_replicate]; omega)
  rw [c2]
  rw [List.length_set, List.length_replicate] at k1
  refine ⟨hb, ⟨by omega, by omega, by omega⟩, rfl, k1, ?_⟩
  rw [hm, withinB_len]
end
end Go.Proofs.YtabdcfcnngnnoaaDoor.E
