/- Functions, by what the evaluator asks; the theorems t.. were printed by show.txt, a program of this session. -/
import Derived.Test.YtdnekkkpngnmkaaDoorL0
import Derived.Test.YtdnekkkpngnmkaaDoor05i
import Derived.Test.YtdnekkkpngnmkaaDoorB1x
set_option linter.unusedVariables false
set_option linter.unusedSimpArgs false
set_option maxRecDepth 100000
namespace Go.Proofs.YtdnekkkpngnmkaaDoor.E
open Go
namespace U
def partsO (n : Int) : ByteArray := partsN n
def ixO (s : ByteArray) (c : Int) : Int := Lib.indexByte s.data.toList c.toNat.toUInt8
def prevO (bl : List (List AV)) (n : Int) : List Int := prevAt (bl.map decB) n
end U
def goY (n : Int) : AV := .v (.int .u8 n)
def encL (l : List Int) : List AV := [.sl (l.map encU)]
def FV : CallT := fun f args sto => match f, args with
 | 101, [.v (.int _ n)] => .is (.v (.string (U.partsO n)), [], [])
 | 104, [.v (.string s), .v (.int _ c)] => .is (goI (U.ixO s c), [], [])
 | 100, [.v (.string s), .v (.int _ c)] => .is (goI (U.ixO s c), [], [])
 | 99, [.v (.int _ n), .v (.int _ c)] => .is (goB (U.has n c), [], [])
 | 92, [.v (.int _ n)] => .is (goB (U.has n 68), [], [])
 | 95, [.v (.int _ n), .v (.int _ c)] => .is (goB (U.has n c), [], [])
 | _, _ => .no
def F72b (sd : Bool) (d : Int) (us : List Int) (s : Bool) (x y : List Int) (k1 k2 : Nat) : CallT := fun f args sto => match f with
 | 81 => .by sd (.is (.tup [goI d, goB true], [], [])) (.is (.tup [goI 0, goB false], [], []))
 | 87 => .by s (.is (.os 0 0 us.length, [.arr 1 (us.map encI)], [])) (.is (.nil, [], []))
 | 13 => .is (.os 0 0 k1, [.arr 1 (x.map encU)], [])
 | 16 => .is (.os 0 0 k2, [.arr 1 (y.map encU)], [])
 | _ => .no
def F46 (y : List Int) (k : Nat) : CallT := fun f args sto => match f with
 | 72 => .is (.sl (y.map encU), [], [])
 | _ => .no
def L46 (y : List Int) : Nat → St → LT := fun id st => .is (.exit 0) (mkS 32 [(3, .sl (y.map encU))] [.dead])
def F47b (m : List Int) (k : Nat) (sm : Bool) : CallT := fun f args sto => match f, args with
 | 73, [.agg [_, _, _, _, .sl bl], .v (.int _ n)] => .is (.sl (U.nextR bl n), [], [])
 | 75, [.agg [_, _, _, _, .sl bl], .v (.int _ n)] => .by (decide (n < 0) || decide (n ≥ bl.length)) (.is (.sl [], [], [])) (.is (.os 0 0 (U.prevO bl n).length, [.arr 1 ((U.prevO bl n).map encI)], []))
 | 46, _ => .is (.sl (m.map encU), [], [])
 | 14, _ => .is (goB sm, [], [])
 | 74, _ => .is (.sl (m.map encU), [], [])
 | _, _ => .no
def L47b (q : List Int) (out : List (List Int)) (s : List Int) (b : Int) : Nat → St → LT := fun id st => match id, st.2 with
 | 5, [x, o, i, _] => .is (.exit 0) (mkS 90 [(1, .pt 0 0 0), (3, st.1.getD 3 .dead), (4, st.1.getD 4 .dead), (5, .os 3 0 q.length)] [x, o, i, .arr 1 (q.map encI)])
 | 9, _ => .is (.exit 2) (mkS 90 [(3, .os 1 0 out.length)] [.dead, .arr 1 (out.map encL), .dead, .dead])
 | 14, [x, o, i, u] => .is (.exit 4) (mkS 90 [(1, .pt 0 0 0), (3, st.1.getD 3 .dead), (4, st.1.getD 4 .dead), (5, st.1.getD 5 .dead), (7, goI b), (8, .sl (s.map encU))] [x, o, i, u])
 | _, _ => .no
set_option maxHeartbeats 4000000
def F15a (t : Bool) (out : List (List Int)) (m : List Int) : CallT := fun f args sto => match f with
 | 45 => .is (goB t, [], [])
 | 47 => .is (.os 0 0 out.length, [.arr 1 (out.map encL)], [])
 | 46 => .is (.sl (m.map encU), [], [])
 | _ => .no

theorem v100 (s : ByteArray) (c : Int) (r : AV × List Row × List Nat) : (runT Tryd.prog H FV L0 false 100 [AV.v (Value.string s), goY c] [] fun q => q = r) = (Wf Tryd.prog H 104 [AV.v (Value.string s), AV.v (Value.int IntKind.u8 c)] [] = some (goI (U.ixO s c), [], []) ∧
 (goI (U.ixO s c), [], []) = r) := by kernel_rfl
theorem v99 (n : Int) (c : Int) (r : AV × List Row × List Nat) : (runT Tryd.prog H FV L0 false 99 [goI n, goY c] [] fun q => q = r) = (Wf Tryd.prog H 101 [goI n] [] = some (AV.v (Value.string (U.partsO n)), [], []) ∧
 Wf Tryd.prog H 100 [AV.v (Value.string (U.partsO n)), AV.v (Value.int IntKind.u8 c)] [] =
 some (goI (U.ixO (U.partsO n) c), [], []) ∧
 (goB (decide (U.ixO (U.partsO n) c ≥ 0)), [], []) = r) := by kernel_rfl
theorem v95 (n : Int) (c : Int) (r : AV × List Row × List Nat) : (runT Tryd.prog H FV L0 false 95 [goI n, goY c] [] fun q => q = r) = (Wf Tryd.prog H 101 [goI n] [] = some (AV.v (Value.string (U.partsO n)), [], []) ∧
 Wf Tryd.prog H 100 [AV.v (Value.string (U.partsO n)), AV.v (Value.int IntKind.u8 c)] [] =
 some (goI (U.ixO (U.partsO n) c), [], []) ∧
 (goB (decide (U.ixO (U.partsO n) c ≥ 0)), [], []) = r) := by kernel_rfl
theorem v92 (n : Int) (r : AV × List Row × List Nat) : (runT Tryd.prog H FV L0 false 92 [goI n] [] fun q => q = r) = (Wf Tryd.prog H 99 [goI n, AV.v (Value.int IntKind.u8 68)] [] = some (goB (U.has n 68), [], []) ∧
 (goB (U.has n 68), [], []) = r) := by kernel_rfl
theorem v81 (op : Int) (d : Int) (a : Int) (b : Int) (n : Int) (m : Int) (l : List Int) (r : AV × List Row × List Nat) : (runT Tryd.prog H FV L0 false 81 [AV.agg [goI op, goI d, goI a, goI b, goI n, goI m, AV.sl (List.map encI l)]] []
 fun q => q = r) = (Wf Tryd.prog H 92 [goI op] [] = some (goB (U.has op 68), [], []) ∧
 TB (!U.has op 68) ((AV.tup [goI 0, goB false], [], []) = r) ((AV.tup [goI d, goB true], [], []) = r)) := by kernel_rfl
theorem v87 (op : Int) (d : Int) (a : Int) (b : Int) (n : Int) (m : Int) (l : List Int) (r : AV × List Row × List Nat) : (runT Tryd.prog H FV L0 false 87 [AV.agg [goI op, goI d, goI a, goI b, goI n, goI m, AV.sl (List.map encI l)]] []
 fun q => q = r) = (Wf Tryd.prog H 95 [goI op, AV.v (Value.int IntKind.u8 65)] [] = some (goB (U.has op 65), [], []) ∧
 TB (U.has op 65)
 (true = true ∧
 1 ≤ 1000000 ∧
 Wf Tryd.prog H 95 [goI op, AV.v (Value.int IntKind.u8 66)] [] = some (goB (U.has op 66), [], []) ∧
 TB (U.has op 66)
 (true = true ∧
 (1 = 1 ∧ 2 ≤ 1000000) ∧
 Wf Tryd.prog H 95 [goI op, AV.v (Value.int IntKind.u8 76)] [] = some (goB (U.has op 76), [], []) ∧
 TB (U.has op 76)
 (rowsOk 1 (List.map encI l) = true ∧
 (2 = 2 ∧ 2 + List.length (List.map encI l) ≤ 1000000) ∧
 (AV.os 0 0 (2 + List.length (List.map encI l)),
 [Row.arr 1 ([goI a] :: [goI b] :: List.append._f [] PUnit.unit (List.map encI l))], []) =
 r)
 ((AV.os 0 0 2, [Row.arr 1 [[goI a], [goI b]]], []) = r))
 (Wf Tryd.prog H 95 [goI op, AV.v (Value.int IntKind.u8 76)] [] = some (goB (U.has op 76), [], []) ∧
 TB (U.has op 76)
 (rowsOk 1 (List.map encI l) = true ∧
 (1 = 1 ∧ 1 + List.length (List.map encI l) ≤ 1000000) ∧
 (AV.os 0 0 (1 + List.length (List.map encI l)),
 [Row.arr 1 ([goI a] :: List.append._f [] PUnit.unit (List.map encI l))], []) =
 r)
 ((AV.os 0 0 1, [Row.arr 1 [[goI a]]], []) = r)))
 (Wf Tryd.prog H 95 [goI op, AV.v (Value.int IntKind.u8 66)] [] = some (goB (U.has op 66), [], []) ∧
 TB (U.has op 66)
 (true = true ∧
 1 ≤ 1000000 ∧
 Wf Tryd.prog H 95 [goI op, AV.v (Value.int IntKind.u8 76)] [] = some (goB (U.has op 76), [], []) ∧
 TB (U.has op 76)
 (rowsOk 1 (List.map encI l) = true ∧
 (1 = 1 ∧ 1 + List.length (List.map encI l) ≤ 1000000) ∧
 (AV.os 0 0 (1 + List.length (List.map encI l)),
 [Row.arr 1 ([goI b] :: List.append._f [] PUnit.unit (List.map encI l))], []) =
 r)
 ((AV.os 0 0 1, [Row.arr 1 [[goI b]]], []) = r))
 (Wf Tryd.prog H 95 [goI op, AV.v (Value.int IntKind.u8 76)] [] = some (goB (U.has op 76), [], []) ∧
 TB (U.has op 76)
 (rowsOk 1 (List.map encI l) = true ∧
 List.length (List.map encI l) ≤ 1000000 ∧
 (AV.os 0 0 (List.length (List.map encI l)), [Row.arr 1 (List.map encI l)], []) = r)
 ((AV.nil, [], []) = r)))) := by kernel_rfl
theorem v72 (op : Int) (d : Int) (a : Int) (b : Int) (n : Int) (m : Int) (l : List Int) (w : List Int) (sd : Bool) (us : List Int) (s : Bool) (x : List Int) (y : List Int) (k1 : Nat) (k2 : Nat) (r : AV × List Row × List Nat) : (runT Tryd.prog H (F72b sd d us s x y k1 k2) L0 false 72
 [AV.agg [goI op, goI d, goI a, goI b, goI n, goI m, AV.sl (List.map encI l)], AV.sl (List.map encU w)] [] fun q =>
 q = r) = (TB sd
 (Wf Tryd.prog H 81 [AV.agg [goI op, goI d, goI a, goI b, goI n, goI m, AV.sl (List.map encI l)]] [] =
 some (AV.tup [goI d, goB true], [], []) ∧
 Wf Tryd.prog H 13 [AV.sl (List.map encU w), AV.sl [[goI d]]] [] =
 some (AV.os 0 0 k1, [Row.arr 1 (List.map encU x)], []) ∧
 TB s
 (Wf Tryd.prog H 87 [AV.agg [goI op, goI d, goI a, goI b, goI n, goI m, AV.sl (List.map encI l)]] [] =
 some (AV.os 0 0 (List.length us), [Row.arr 1 (List.map encI us)], []) ∧
 Wf Tryd.prog H 16
 [AV.sl (List.take k1 (List.drop 0 (List.map encU x))),
 AV.sl (List.take (List.length us) (List.drop 0 (List.map encI us)))]
 [] =
 some (AV.os 0 0 k2, [Row.arr 1 (List.map encU y)], []) ∧
 (AV.sl (List.take k2 (List.drop 0 (List.map encU y))), [], []) = r)
 (Wf Tryd.prog H 87 [AV.agg [goI op, goI d, goI a, goI b, goI n, goI m, AV.sl (List.map encI l)]] [] =
 some (AV.nil, [], []) ∧
 Wf Tryd.prog H 16 [AV.sl (List.take k1 (List.drop 0 (List.map encU x))), AV.sl []] [] =
 some (AV.os 0 0 k2, [Row.arr 1 (List.map encU y)], []) ∧
 (AV.sl (List.take k2 (List.drop 0 (List.map encU y))), [], []) = r))
 (Wf Tryd.prog H 81 [AV.agg [goI op, goI d, goI a, goI b, goI n, goI m, AV.sl (List.map encI l)]] [] =
 some (AV.tup [goI 0, goB false], [], []) ∧
 TB s
 (Wf Tryd.prog H 87 [AV.agg [goI op, goI d, goI a, goI b, goI n, goI m, AV.sl (List.map encI l)]] [] =
 some (AV.os 0 0 (List.length us), [Row.arr 1 (List.map encI us)], []) ∧
 Wf Tryd.prog H 16 [AV.sl (List.map encU w), AV.sl (List.take (List.length us) (List.drop 0 (List.map encI us)))]
 [] =
 some (AV.os 0 0 k2, [Row.arr 1 (List.map encU y)], []) ∧
 (AV.sl (List.take k2 (List.drop 0 (List.map encU y))), [], []) = r)
 (Wf Tryd.prog H 87 [AV.agg [goI op, goI d, goI a, goI b, goI n, goI m, AV.sl (List.map encI l)]] [] =
 some (AV.nil, [], []) ∧
 Wf Tryd.prog H 16 [AV.sl (List.map encU w), AV.sl []] [] =
 some (AV.os 0 0 k2, [Row.arr 1 (List.map encU y)], []) ∧
 (AV.sl (List.take k2 (List.drop 0 (List.map encU y))), [], []) = r))) := by kernel_rfl
theorem v46 (ks : List (List AV)) (bs : List (List AV)) (p : Int) (q : Int) (bl : List XB) (b : Nat) (i : Nat) (w : List Int) (y : List Int) (r : AV × List Row × List Nat) : (runT Tryd.prog H (fun f args sto => CT.of (F0 f args sto)) (L46 y) false 46
 [AV.agg [AV.sl ks, AV.sl bs, goI p, goI q, AV.sl (List.map encB bl)], goI (↑b : Int), goI (↑i : Int),
 AV.sl (List.map encU w)]
 [] fun q => q = r) = ((0 ≤ (↑b : Int) ∧ (List.map encB bl)[b]? = some [AV.sl (rdL (rowAt (List.map encB bl) b) 0)]) ∧
 LoopTo Tryd.prog H (H 46) 0 (loopOf Tryd.prog 46 3)
 (mkS 32
 [(2, goI (↑i : Int)), (3, AV.sl (List.map encU w)), (9, AV.sl (rdL (rowAt (List.map encB bl) b) 0)),
 (10, goI (IntKind.wrap IntKind.i64 ((↑(List.length (rdL (rowAt (List.map encB bl) b) 0)) : Int) - 1)))]
 [Row.dead])
 (Ex.exit 0, mkS 32 [(3, AV.sl (List.map encU y))] [Row.dead]) ∧
 (AV.sl (List.map encU y), [], []) = r) := by kernel_rfl
theorem v46_3 (i : Int) (k : Int) (c : List XI) (w : List Int) (y : List Int) (n : Nat) (r : Ex × St) : (turnT Tryd.prog H (F46 y n) L0 false (H 46) 0 (loopOf Tryd.prog 46 3)
 (mkS 32 [(2, goI i), (3, AV.sl (List.map encU w)), (9, AV.sl (List.map encIn c)), (10, goI k)] [Row.dead]) r) = (TB (decide (k ≥ i))
 ((0 ≤ k ∧
 (List.map encIn c)[Int.toNat k]? =
 some
 [goI (rdI (rowAt (List.map encIn c) (Int.toNat k)) 0), goI (rdI (rowAt (List.map encIn c) (Int.toNat k)) 1),
 goI (rdI (rowAt (List.map encIn c) (Int.toNat k)) 2), goI (rdI (rowAt (List.map encIn c) (Int.toNat k)) 3),
 goI (rdI (rowAt (List.map encIn c) (Int.toNat k)) 4), goI (rdI (rowAt (List.map encIn c) (Int.toNat k)) 5),
 AV.sl (rdL (rowAt (List.map encIn c) (Int.toNat k)) 6)]) ∧
 Wf Tryd.prog H 72
 [AV.agg
 [goI (rdI (rowAt (List.map encIn c) (Int.toNat k)) 0),
 goI (rdI (rowAt (List.map encIn c) (Int.toNat k)) 1),
 goI (rdI (rowAt (List.map encIn c) (Int.toNat k)) 2),
 goI (rdI (rowAt (List.map encIn c) (Int.toNat k)) 3),
 goI (rdI (rowAt (List.map encIn c) (Int.toNat k)) 4),
 goI (rdI (rowAt (List.map encIn c) (Int.toNat k)) 5),
 AV.sl (rdL (rowAt (List.map encIn c) (Int.toNat k)) 6)],
 AV.sl (List.map encU w)]
 [] =
 some (AV.sl (List.map encU y), [], []) ∧
 LoopTo Tryd.prog H (H 46) 0 (loopOf Tryd.prog 46 3)
 (mkS 32
 [(2, goI i), (3, AV.sl (List.map encU y)), (9, AV.sl (List.map encIn c)),
 (10, goI (IntKind.wrap IntKind.i64 (k - 1)))]
 [Row.dead])
 r)
 ((Ex.exit 0, mkS 32 [(3, AV.sl (List.map encU w))] [Row.dead]) = r)) := by kernel_rfl
theorem v47 (ks : List (List AV)) (bs : List (List AV)) (p : Int) (q : Int) (bl : List XB) (qu : List Int) (out : List (List Int)) (r : AV × List Row × List Nat) : (runT Tryd.prog H (fun f args sto => CT.of (F0 f args sto)) (L47b qu out [] 0) false 47
 [AV.agg [AV.sl ks, AV.sl bs, goI p, goI q, AV.sl (List.map encB bl)]] [] fun q => q = r) = ((0 ≤ (↑(List.length (List.map encB bl)) : Int) ∧
 (↑(List.length (List.map encB bl)) : Int) ≤ (↑(List.length (List.map encB bl)) : Int) ∧
 (↑(List.length (List.map encB bl)) : Int) ≤ (↑1000000 : Int)) ∧
 (0 ≤ (↑(List.length (List.map encB bl)) : Int) ∧
 (↑(List.length (List.map encB bl)) : Int) ≤ (↑(List.length (List.map encB bl)) : Int) ∧
 (↑(List.length (List.map encB bl)) : Int) ≤ (↑1000000 : Int)) ∧
 (iz 0 ≤ 0 ∧
 0 ≤ (↑(List.length (List.map encB bl)) : Int) ∧ (↑(List.length (List.map encB bl)) : Int) ≤ (↑1000000 : Int)) ∧
 LoopTo Tryd.prog H (H 47) 0 (loopOf Tryd.prog 47 5)
 (mkS 90
 [(1, AV.pt 0 0 0), (3, AV.os 1 0 (List.length (List.replicate (List.length (List.map encB bl)) [AV.nil]))),
 (4, AV.os 2 0 (List.length (List.replicate (List.length (List.map encB bl)) [AV.nil]))), (5, AV.os 3 0 0),
 (26, goI (↑(List.length (List.map encB bl)) : Int)), (27, goI 0)]
 [Row.box [AV.sl ks, AV.sl bs, goI p, goI q, AV.sl (List.map encB bl)],
 Row.arr 1 (List.map weakL (List.replicate (List.length (List.map encB bl)) [AV.nil])),
 Row.arr 1 (List.map weakL (List.replicate (List.length (List.map encB bl)) [AV.nil])), Row.arr 1 []])
 (Ex.exit 0,
 mkS 90
 [(1, AV.pt 0 0 0),
 (3, AV.os 1 0 (List.length (List.replicate (List.length (List.map encB bl)) [AV.nil]))),
 (4, AV.os 2 0 (List.length (List.replicate (List.length (List.map encB bl)) [AV.nil]))),
 (5, AV.os 3 0 (List.length qu))]
 [Row.box [AV.sl ks, AV.sl bs, goI p, goI q, AV.sl (List.map encB bl)],
 Row.arr 1 (List.map weakL (List.replicate (List.length (List.map encB bl)) [AV.nil])),
 Row.arr 1 (List.map weakL (List.replicate (List.length (List.map encB bl)) [AV.nil])),
 Row.arr 1 (List.map encI qu)]) ∧
 LoopTo Tryd.prog H (H 47) 0 (loopOf Tryd.prog 47 9)
 (mkS 90
 [(1, AV.pt 0 0 0),
 (3, AV.os 1 0 (List.length (List.replicate (List.length (List.map encB bl)) [AV.nil]))),
 (4, AV.os 2 0 (List.length (List.replicate (List.length (List.map encB bl)) [AV.nil]))),
 (5, AV.os 3 0 (List.length qu))]
 [Row.box [AV.sl ks, AV.sl bs, goI p, goI q, AV.sl (List.map encB bl)],
 Row.arr 1 (List.map weakL (List.replicate (List.length (List.map encB bl)) [AV.nil])),
 Row.arr 1 (List.map weakL (List.replicate (List.length (List.map encB bl)) [AV.nil])),
 Row.arr 1 (List.map encI qu)])
 (Ex.exit 2,
 mkS 90 [(3, AV.os 1 0 (List.length out))] [Row.dead, Row.arr 1 (List.map encL out), Row.dead, Row.dead]) ∧
 (AV.os 0 0 (List.length out), [Row.arr 1 (List.map encL out)], []) = r) := by kernel_rfl
theorem v47_5 (ks : List (List AV)) (bs : List (List AV)) (p : Int) (q : Int) (bl : List XB) (ou : List (List Int)) (inn : List (List Int)) (n : Nat) (m : Nat) (k : Int) (j : Nat) (qu : List Int) (r : Ex × St) : (turnT Tryd.prog H (fun f args sto => CT.of (F0 f args sto)) L0 false (H 47) 0 (loopOf Tryd.prog 47 5)
 (mkS 90
 [(1, AV.pt 0 0 0), (3, AV.os 1 0 n), (4, AV.os 2 0 m), (5, AV.os 3 0 (List.length qu)), (26, goI k),
 (27, goI (↑j : Int))]
 [Row.box [AV.sl ks, AV.sl bs, goI p, goI q, AV.sl (List.map encB bl)], Row.arr 1 (List.map encL ou),
 Row.arr 1 (List.map encL inn), Row.arr 1 (List.map encI qu)])
 r) = (TB (decide ((↑j : Int) < k))
 (true = true ∧
 (List.length qu = List.length (List.map encI qu) ∧ List.length qu + 1 ≤ 1000000) ∧
 LoopTo Tryd.prog H (H 47) 0 (loopOf Tryd.prog 47 5)
 (mkS 90
 [(1, AV.pt 0 0 0), (3, AV.os 1 0 n), (4, AV.os 2 0 m), (5, AV.os 3 0 (List.length qu + 1)), (26, goI k),
 (27, goI (IntKind.wrap IntKind.i64 ((↑j : Int) + 1)))]
 [Row.box [AV.sl ks, AV.sl bs, goI p, goI q, AV.sl (List.map encB bl)], Row.arr 1 (List.map encL ou),
 Row.arr 1 (List.map encL inn), Row.arr 1 (List.map encI qu ++ [[goI (↑j : Int)]])])
 r)
 ((Ex.exit 0,
 mkS 90 [(1, AV.pt 0 0 0), (3, AV.os 1 0 n), (4, AV.os 2 0 m), (5, AV.os 3 0 (List.length qu))]
 [Row.box [AV.sl ks, AV.sl bs, goI p, goI q, AV.sl (List.map encB bl)], Row.arr 1 (List.map encL ou),
 Row.arr 1 (List.map encL inn), Row.arr 1 (List.map encI qu)]) =
 r)) := by kernel_rfl
theorem v47_9 (ks : List (List AV)) (bs : List (List AV)) (p : Int) (q : Int) (bl : List XB) (out : List (List Int)) (inn : List (List Int)) (qu : List Int) (z : Nat) (b : Int) (s : List Int) (m : List Int) (k : Nat) (sm : Bool) (r : Ex × St) : (turnT Tryd.prog H (F47b m k sm) (L47b [] [] s b) false (H 47) 0 (loopOf Tryd.prog 47 9)
 (mkS 90 [(1, AV.pt 0 0 0), (3, AV.os 1 0 (List.length out)), (4, AV.os 2 0 (List.length inn)), (5, AV.os 3 0 z)]
 [Row.box [AV.sl ks, AV.sl bs, goI p, goI q, AV.sl (List.map encB bl)], Row.arr 1 (List.map encL out),
 Row.arr 1 (List.map encL inn), Row.arr 1 (List.map encI qu)])
 r) = (TB (decide ((↑z : Int) > 0))
 ((0 ≤ IntKind.wrap IntKind.i64 ((↑z : Int) - 1) ∧
 IntKind.wrap IntKind.i64 ((↑z : Int) - 1) < (↑z : Int) ∧
 0 + Int.toNat (IntKind.wrap IntKind.i64 ((↑z : Int) - 1)) < List.length (List.map encI qu)) ∧
 cutAt 1 0 (List.map encI qu)[0 + Int.toNat (IntKind.wrap IntKind.i64 ((↑z : Int) - 1))]? =
 some [goI (rdI (rowAt (List.map encI qu) (0 + Int.toNat (IntKind.wrap IntKind.i64 ((↑z : Int) - 1)))) 0)] ∧
 (0 ≤ IntKind.wrap IntKind.i64 ((↑z : Int) - 1) ∧
 IntKind.wrap IntKind.i64 ((↑z : Int) - 1) ≤ (↑(List.length (List.map encI qu) - 0) : Int)) ∧
 Wf Tryd.prog H 73
 [AV.agg [AV.sl ks, AV.sl bs, goI p, goI q, AV.sl (List.map encB bl)],
 goI (rdI (rowAt (List.map encI qu) (0 + Int.toNat (IntKind.wrap IntKind.i64 ((↑z : Int) - 1)))) 0)]
 [] =
 some
 (AV.sl
 (U.nextR (List.map encB bl)
 (rdI (rowAt (List.map encI qu) (0 + Int.toNat (IntKind.wrap IntKind.i64 ((↑z : Int) - 1)))) 0)),
 [], []) ∧
 LoopTo Tryd.prog H (H 47) 0 (loopOf Tryd.prog 47 14)
 (mkS 90
 [(1, AV.pt 0 0 0), (3, AV.os 1 0 (List.length out)), (4, AV.os 2 0 (List.length inn)),
 (5, AV.os 3 0 (Int.toNat (IntKind.wrap IntKind.i64 ((↑z : Int) - 1)) - 0)),
 (7,
 goI (rdI (rowAt (List.map encI qu) (0 + Int.toNat (IntKind.wrap IntKind.i64 ((↑z : Int) - 1)))) 0)),
 (8, AV.sl []),
 (51,
 AV.sl
 (U.nextR (List.map encB bl)
 (rdI (rowAt (List.map encI qu) (0 + Int.toNat (IntKind.wrap IntKind.i64 ((↑z : Int) - 1))))
 0))),
 (52,
 goI
 (↑(List.length
 (U.nextR (List.map encB bl)
 (rdI
 (rowAt (List.map encI qu) (0 + Int.toNat (IntKind.wrap IntKind.i64 ((↑z : Int) - 1))))
 0))) :
 Int)),
 (53, goI 0)]
 [Row.box [AV.sl ks, AV.sl bs, goI p, goI q, AV.sl (List.map encB bl)], Row.arr 1 (List.map encL out),
 Row.arr 1 (List.map encL inn), Row.arr 1 (List.map encI qu)])
 (Ex.exit 4,
 mkS 90
 [(1, AV.pt 0 0 0), (3, AV.os 1 0 (List.length out)), (4, AV.os 2 0 (List.length inn)),
 (5, AV.os 3 0 (Int.toNat (IntKind.wrap IntKind.i64 ((↑z : Int) - 1)) - 0)), (7, goI b),
 (8, AV.sl (List.map encU s))]
 [Row.box [AV.sl ks, AV.sl bs, goI p, goI q, AV.sl (List.map encB bl)], Row.arr 1 (List.map encL out),
 Row.arr 1 (List.map encL inn), Row.arr 1 (List.map encI qu)]) ∧
 (0 ≤ b ∧ b < (↑(List.length out) : Int) ∧ 0 + Int.toNat b < List.length (List.map encL out)) ∧
 Option.map List.length (List.map encL out)[0 + Int.toNat b]? = some 1 ∧
 Wf Tryd.prog H 46
 [AV.agg [AV.sl ks, AV.sl bs, goI p, goI q, AV.sl (List.map encB bl)], goI b, goI 0,
 AV.sl (List.map encU s)]
 [] =
 some (AV.sl (List.map encU m), [], []) ∧
 (0 ≤ b ∧ b < (↑(List.length inn) : Int) ∧ 0 + Int.toNat b < List.length (List.map encL inn)) ∧
 cutAt 1 0 (List.map encL inn)[0 + Int.toNat b]? =
 some [AV.sl (rdL (rowAt (List.map encL inn) (0 + Int.toNat b)) 0)] ∧
 Wf Tryd.prog H 14
 [AV.sl (List.map encU m), AV.sl (rdL (rowAt (List.map encL inn) (0 + Int.toNat b)) 0)] [] =
 some (goB sm, [], []) ∧
 TB (!sm)
 ((0 ≤ b ∧
 b < (↑(List.length inn) : Int) ∧ 0 + Int.toNat b < List.length (List.map encL inn)) ∧
 Option.map List.length (List.map encL inn)[0 + Int.toNat b]? = some 1 ∧
 TB (decide (b < 0) || decide (b ≥ (↑(List.length (List.map encB bl)) : Int)))
 (Wf Tryd.prog H 75
 [AV.agg [AV.sl ks, AV.sl bs, goI p, goI q, AV.sl (List.map encB bl)], goI b] [] =
 some (AV.sl [], [], []) ∧
 true = true ∧
 (0 + (Int.toNat (IntKind.wrap IntKind.i64 ((↑z : Int) - 1)) - 0) ≤
 List.length (List.map encI qu) ∧
 Int.toNat (IntKind.wrap IntKind.i64 ((↑z : Int) - 1)) - 0 + 0 ≤ 1000000) ∧
 LoopTo Tryd.prog H (H 47) 0 (loopOf Tryd.prog 47 9)
 (mkS 90
 [(1, AV.pt 0 0 0), (3, AV.os 1 0 (List.length out)),
 (4, AV.os 2 0 (List.length inn)),
 (5,
 AV.os 3 0
 (Int.toNat (IntKind.wrap IntKind.i64 ((↑z : Int) - 1)) - 0 + 0))]
 [Row.box [AV.sl ks, AV.sl bs, goI p, goI q, AV.sl (List.map encB bl)],
 Row.arr 1
 (List.set (List.map encL out) (0 + Int.toNat b)
 [AV.sl (List.map encU s)]),
 Row.arr 1
 (List.set (List.map encL inn) (0 + Int.toNat b)
 [AV.sl (List.map encU m)]),
 Row.arr 1
 (List.take (Int.toNat (IntKind.wrap IntKind.i64 ((↑z : Int) - 1)) - 0)
 (List.drop 0 (List.map encI qu)) ++
 [])])
 r)
 (Wf Tryd.prog H 75
 [AV.agg [AV.sl ks, AV.sl bs, goI p, goI q, AV.sl (List.map encB bl)], goI b] [] =
 some
 (AV.os 0 0 (List.length (U.prevO (List.map encB bl) b)),
 [Row.arr 1 (List.map encI (U.prevO (List.map encB bl) b))], []) ∧
 rowsOk 1
 (List.take (List.length (U.prevO (List.map encB bl) b))
 (List.drop 0 (List.map encI (U.prevO (List.map encB bl) b)))) =
 true ∧
 (0 + (Int.toNat (IntKind.wrap IntKind.i64 ((↑z : Int) - 1)) - 0) ≤
 List.length (List.map encI qu) ∧
 Int.toNat (IntKind.wrap IntKind.i64 ((↑z : Int) - 1)) - 0 +
 List.length
 (List.take (List.length (U.prevO (List.map encB bl) b))
 (List.drop 0 (List.map encI (U.prevO (List.map encB bl) b)))) ≤
 1000000) ∧
 LoopTo Tryd.prog H (H 47) 0 (loopOf Tryd.prog 47 9)
 (mkS 90
 [(1, AV.pt 0 0 0), (3, AV.os 1 0 (List.length out)),
 (4, AV.os 2 0 (List.length inn)),
 (5,
 AV.os 3 0
 (Int.toNat (IntKind.wrap IntKind.i64 ((↑z : Int) - 1)) - 0 +
 List.length
 (List.take (List.length (U.prevO (List.map encB bl) b))
 (List.drop 0 (List.map encI (U.prevO (List.map encB bl) b))))))]
 [Row.box [AV.sl ks, AV.sl bs, goI p, goI q, AV.sl (List.map encB bl)],
 Row.arr 1
 (List.set (List.map encL out) (0 + Int.toNat b)
 [AV.sl (List.map encU s)]),
 Row.arr 1
 (List.set (List.map encL inn) (0 + Int.toNat b)
 [AV.sl (List.map encU m)]),
 Row.arr 1
 (List.take (Int.toNat (IntKind.wrap IntKind.i64 ((↑z : Int) - 1)) - 0)
 (List.drop 0 (List.map encI qu)) ++
 List.take (List.length (U.prevO (List.map encB bl) b))
 (List.drop 0 (List.map encI (U.prevO (List.map encB bl) b))))])
 r))
 (LoopTo Tryd.prog H (H 47) 0 (loopOf Tryd.prog 47 9)
 (mkS 90
 [(1, AV.pt 0 0 0), (3, AV.os 1 0 (List.length out)), (4, AV.os 2 0 (List.length inn)),
 (5, AV.os 3 0 (Int.toNat (IntKind.wrap IntKind.i64 ((↑z : Int) - 1)) - 0))]
 [Row.box [AV.sl ks, AV.sl bs, goI p, goI q, AV.sl (List.map encB bl)],
 Row.arr 1 (List.set (List.map encL out) (0 + Int.toNat b) [AV.sl (List.map encU s)]),
 Row.arr 1 (List.map encL inn), Row.arr 1 (List.map encI qu)])
 r))
 ((Ex.exit 2,
 mkS 90 [(3, AV.os 1 0 (List.length out))] [Row.dead, Row.arr 1 (List.map encL out), Row.dead, Row.dead]) =
 r)) := by kernel_rfl
theorem v47_14 (X : List AV) (ou : List (List Int)) (inn : List (List Int)) (qu : List Int) (z : Nat) (b : Int) (n : Int) (t : List Int) (s : List Int) (m : List Int) (i : Nat) (r : Ex × St) : (turnT Tryd.prog H (F47b m 0 false) L0 false (H 47) 0 (loopOf Tryd.prog 47 14)
 (mkS 90
 [(1, AV.pt 0 0 0), (3, AV.os 1 0 (List.length ou)), (4, AV.os 2 0 (List.length inn)), (5, AV.os 3 0 z), (7, goI b),
 (8, AV.sl (List.map encU s)), (51, AV.sl (List.map encI t)), (52, goI n), (53, goI (↑i : Int))]
 [Row.box X, Row.arr 1 (List.map encL ou), Row.arr 1 (List.map encL inn), Row.arr 1 (List.map encI qu)])
 r) = (TB (decide ((↑i : Int) < n))
 ((0 ≤ (↑i : Int) ∧ (List.map encI t)[i]? = some [goI (rdI (rowAt (List.map encI t) i) 0)]) ∧
 (0 ≤ rdI (rowAt (List.map encI t) i) 0 ∧
 rdI (rowAt (List.map encI t) i) 0 < (↑(List.length inn) : Int) ∧
 0 + Int.toNat (rdI (rowAt (List.map encI t) i) 0) < List.length (List.map encL inn)) ∧
 cutAt 1 0 (List.map encL inn)[0 + Int.toNat (rdI (rowAt (List.map encI t) i) 0)]? =
 some [AV.sl (rdL (rowAt (List.map encL inn) (0 + Int.toNat (rdI (rowAt (List.map encI t) i) 0))) 0)] ∧
 Wf Tryd.prog H 74
 [AV.sl
 [[AV.sl (List.map encU s)],
 [AV.sl (rdL (rowAt (List.map encL inn) (0 + Int.toNat (rdI (rowAt (List.map encI t) i) 0))) 0)]]]
 [] =
 some (AV.sl (List.map encU m), [], []) ∧
 LoopTo Tryd.prog H (H 47) 0 (loopOf Tryd.prog 47 14)
 (mkS 90
 [(1, AV.pt 0 0 0), (3, AV.os 1 0 (List.length ou)), (4, AV.os 2 0 (List.length inn)), (5, AV.os 3 0 z),
 (7, goI b), (8, AV.sl (List.map encU m)), (51, AV.sl (List.map encI t)), (52, goI n),
 (53, goI (IntKind.wrap IntKind.i64 ((↑i : Int) + 1)))]
 [Row.box X, Row.arr 1 (List.map encL ou), Row.arr 1 (List.map encL inn), Row.arr 1 (List.map encI qu)])
 r)
 ((Ex.exit 4,
 mkS 90
 [(1, AV.pt 0 0 0), (3, AV.os 1 0 (List.length ou)), (4, AV.os 2 0 (List.length inn)), (5, AV.os 3 0 z),
 (7, goI b), (8, AV.sl (List.map encU s))]
 [Row.box X, Row.arr 1 (List.map encL ou), Row.arr 1 (List.map encL inn), Row.arr 1 (List.map encI qu)]) =
 r)) := by kernel_rfl
theorem v45 (ks : List (List AV)) (bs : List (List AV)) (p : Int) (q : Int) (bl : List XB) (b : Int) (i : Int) (r : AV × List Row × List Nat) : (runT Tryd.prog H (fun f args sto => CT.of (F0 f args sto)) L0 false 45
 [AV.agg [AV.sl ks, AV.sl bs, goI p, goI q, AV.sl (List.map encB bl)], goI b, goI i] [] fun q => q = r) = (TB (decide (b ≥ 0))
 (TB (decide (b < (↑(List.length (List.map encB bl)) : Int)))
 (TB (decide (i ≥ 0))
 ((0 ≤ b ∧ (List.map encB bl)[Int.toNat b]? = some [AV.sl (rdL (rowAt (List.map encB bl) (Int.toNat b)) 0)]) ∧
 (goB (decide (i < (↑(List.length (rdL (rowAt (List.map encB bl) (Int.toNat b)) 0)) : Int))), [], []) = r)
 ((goB false, [], []) = r))
 ((goB false, [], []) = r))
 ((goB false, [], []) = r)) := by kernel_rfl
theorem v15 (ks : List (List AV)) (bs : List (List AV)) (p : Int) (q : Int) (bl : List XB) (b : Int) (i : Int) (t : Bool) (out : List (List Int)) (m : List Int) (r : AV × List Row × List Nat) : (runT Tryd.prog H (F15a t out m) L0 false 15
 [AV.agg [AV.sl ks, AV.sl bs, goI p, goI q, AV.sl (List.map encB bl)], goI b, goI i] [] fun q => q = r) = (Wf Tryd.prog H 45 [AV.agg [AV.sl ks, AV.sl bs, goI p, goI q, AV.sl (List.map encB bl)], goI b, goI i] [] =
 some (goB t, [], []) ∧
 TB (!t) ((AV.sl [], [], []) = r)
 (Wf Tryd.prog H 47 [AV.agg [AV.sl ks, AV.sl bs, goI p, goI q, AV.sl (List.map encB bl)]] [] =
 some (AV.os 0 0 (List.length out), [Row.arr 1 (List.map encL out)], []) ∧
 (0 ≤ b ∧
 (List.take (List.length out) (List.drop 0 (List.map encL out)))[Int.toNat b]? =
 some
 [AV.sl (rdL (rowAt (List.take (List.length out) (List.drop 0 (List.map encL out))) (Int.toNat b)) 0)]) ∧
 Wf Tryd.prog H 46
 [AV.agg [AV.sl ks, AV.sl bs, goI p, goI q, AV.sl (List.map encB bl)], goI b, goI i,
 AV.sl (rdL (rowAt (List.take (List.length out) (List.drop 0 (List.map encL out))) (Int.toNat b)) 0)]
 [] =
 some (AV.sl (List.map encU m), [], []) ∧
 (AV.sl (List.map encU m), [], []) = r)) := by kernel_rfl
theorem v11 (ks : List (List AV)) (bs : List (List AV)) (p : Int) (q : Int) (bl : List XB) (b : Int) (i : Int) (t : Bool) (out : List (List Int)) (m : List Int) (r : AV × List Row × List Nat) : (runT Tryd.prog H (F15a t out m) L0 false 11
 [AV.agg [AV.sl ks, AV.sl bs, goI p, goI q, AV.sl (List.map encB bl)], goI b, goI i] [] fun q => q = r) = (Wf Tryd.prog H 45 [AV.agg [AV.sl ks, AV.sl bs, goI p, goI q, AV.sl (List.map encB bl)], goI b, goI i] [] =
 some (goB t, [], []) ∧
 TB (!t) ((AV.sl [], [], []) = r)
 (Wf Tryd.prog H 47 [AV.agg [AV.sl ks, AV.sl bs, goI p, goI q, AV.sl (List.map encB bl)]] [] =
 some (AV.os 0 0 (List.length out), [Row.arr 1 (List.map encL out)], []) ∧
 (0 ≤ b ∧
 (List.take (List.length out) (List.drop 0 (List.map encL out)))[Int.toNat b]? =
 some
 [AV.sl (rdL (rowAt (List.take (List.length out) (List.drop 0 (List.map encL out))) (Int.toNat b)) 0)]) ∧
 Wf Tryd.prog H 46
 [AV.agg [AV.sl ks, AV.sl bs, goI p, goI q, AV.sl (List.map encB bl)], goI b,
 goI (IntKind.wrap IntKind.i64 (i + 1)),
 AV.sl (rdL (rowAt (List.take (List.length out) (List.drop 0 (List.map encL out))) (Int.toNat b)) 0)]
 [] =
 some (AV.sl (List.map encU m), [], []) ∧
 (AV.sl (List.map encU m), [], []) = r)) := by kernel_rfl
theorem has_ix (op c : Int) (hc : c = 65 ∨ c = 66 ∨ c = 68 ∨ c = 76) : decide (U.ixO (U.partsO op) c ≥ 0) = U.has op c := by
  by_cases h : 0 ≤ op ∧ op < 24
  · have ho : op = 0 ∨ op = 1 ∨ op = 2 ∨ op = 3 ∨ op = 4 ∨ op = 5 ∨ op = 6 ∨ op = 7 ∨ op = 8 ∨ op = 9 ∨ op = 10 ∨ op = 11 ∨ op = 12 ∨ op = 13 ∨ op = 14 ∨ op = 15 ∨ op = 16 ∨ op = 17 ∨ op = 18 ∨ op = 19 ∨ op = 20 ∨ op = 21 ∨ op = 22 ∨ op = 23 := by omega
    rcases hc with rfl | rfl | rfl | rfl <;> rcases ho with rfl | rfl | rfl | rfl | rfl | rfl | rfl | rfl | rfl | rfl | rfl | rfl | rfl | rfl | rfl | rfl | rfl | rfl | rfl | rfl | rfl | rfl | rfl | rfl <;> decide
  · have e1 : U.partsO op = ⟨#[]⟩ := if_neg h
    have e2 : U.parts op = ⟨#[]⟩ := by
      unfold U.parts
      repeat rw [if_neg (by omega)]
    unfold U.has
    rw [e1, e2]
    rcases hc with rfl | rfl | rfl | rfl <;> decide
theorem wv101 (n : Int) : Wf Tryd.prog H 101 [goI n] [] = some (.v (.string (U.partsO n)), [], []) := Wf_prim (p := partsP) (by rfl) rfl
theorem wv104 (s : ByteArray) (c : Int) : Wf Tryd.prog H 104 [.v (.string s), goY c] [] = some (goI (U.ixO s c), [], []) := Wf_prim (p := ixP) (by rfl) rfl
theorem wv100 (s : ByteArray) (c : Int) : Wf Tryd.prog H 100 [.v (.string s), goY c] [] = some (goI (U.ixO s c), [], []) := runK (v100 s c _) ⟨wv104 s c, rfl⟩
theorem wv99 (n c : Int) (hc : c = 65 ∨ c = 66 ∨ c = 68 ∨ c = 76) : Wf Tryd.prog H 99 [goI n, goY c] [] = some (goB (U.has n c), [], []) := by
  refine runK (v99 n c _) ⟨wv101 n, wv100 _ _, ?_⟩
  rw [has_ix n c hc]
theorem wv95 (n c : Int) (hc : c = 65 ∨ c = 66 ∨ c = 68 ∨ c = 76) : Wf Tryd.prog H 95 [goI n, goY c] [] = some (goB (U.has n c), [], []) := by
  refine runK (v95 n c _) ⟨wv101 n, wv100 _ _, ?_⟩
  rw [has_ix n c hc]
theorem wv92 (n : Int) : Wf Tryd.prog H 92 [goI n] [] = some (goB (U.has n 68), [], []) := runK (v92 n _) ⟨wv99 n 68 (by omega), rfl⟩
theorem wv81 (x : XI) : Wf Tryd.prog H 81 [.agg (encIn x)] [] = some (if U.has x.op 68 then .tup [goI x.d, goB true] else .tup [goI 0, goB false], [], []) := by
  refine runK (v81 x.op x.d x.a x.b x.n x.m x.args _) ⟨wv92 x.op, ?_⟩
  cases U.has x.op 68 with
  | true => exact rfl
  | false => exact rfl
theorem wv87 (x : XI) (hl : x.args.length ≤ 3000) : Wf Tryd.prog H 87 [.agg (encIn x)] [] = some (usesT (U.uses x) (U.some x)) := by
  refine runK (v87 x.op x.d x.a x.b x.n x.m x.args _) ⟨wv95 x.op 65 (by omega), ?_⟩
  have k1 := wv95 x.op 66 (by omega)
  have k2 := wv95 x.op 76 (by omega)
  have hr := rowsOkI x.args
  have h0 : (x.args.map encI).length = x.args.length := List.length_map _
  unfold usesT U.uses U.uses1 U.some
  cases ha : U.has x.op 65 with
  | true =>
    refine ⟨rfl, by decide, k1, ?_⟩
    cases hb : U.has x.op 66 with
    | true =>
      refine ⟨rfl, ⟨rfl, by decide⟩, k2, ?_⟩
      cases hc : U.has x.op 76 with
      | true =>
        refine ⟨hr, ⟨rfl, by rw [h0]; omega⟩, ?_⟩
        simp
        exact ⟨by omega, rfl, rfl⟩
      | false => exact rfl
    | false =>
      refine ⟨k2, ?_⟩
      cases hc : U.has x.op 76 with
      | true =>
        refine ⟨hr, ⟨rfl, by rw [h0]; omega⟩, ?_⟩
        simp
        exact ⟨by omega, rfl⟩
      | false => exact rfl
  | false =>
    refine ⟨k1, ?_⟩
    cases hb : U.has x.op 66 with
    | true =>
      refine ⟨rfl, by decide, k2, ?_⟩
      cases hc : U.has x.op 76 with
      | true =>
        refine ⟨hr, ⟨rfl, by rw [h0]; omega⟩, ?_⟩
        simp
        exact ⟨by omega, rfl⟩
      | false => exact rfl
    | false =>
      refine ⟨k2, ?_⟩
      cases hc : U.has x.op 76 with
      | true =>
        refine ⟨hr, by rw [h0]; omega, ?_⟩
        simp
      | false => exact rfl
theorem some_no {x : XI} (h : U.some x = false) : U.uses x = [] := by
  unfold U.some at h
  unfold U.uses U.uses1
  simp only [Bool.or_eq_false_iff] at h
  simp [h]
theorem usesL_len (x : XI) : (U.uses x).length ≤ 2 + x.args.length := by
  unfold U.uses U.uses1
  rw [List.length_append, List.length_append]
  split <;> split <;> split <;> simp <;> omega
/-- What is asked of an instruction. -/
def InsIn (x : XI) : Prop := x.args.length ≤ 3000 ∧ x.d < 9223372036854775808
theorem withL_len (s l : List Int) (h : s.length ≤ 1000) : (U.withL s l).length ≤ 1000 := by
  have h1 := puts_len l s h
  have h2 := Bit.neatL_length_le (l.foldl Bit.putL s)
  unfold U.withL; omega
theorem withoutL_len (s l : List Int) (h : s.length ≤ 1000) : (U.withoutL s l).length ≤ 1000 := by
  have h1 := drops_len l s
  have h2 := Bit.neatL_length_le (l.foldl Bit.dropL s)
  unfold U.withoutL; omega
theorem backL_len (x : XI) (s : List Int) (h : s.length ≤ 1000) : (U.backL x s).length ≤ 1000 := by
  unfold U.backL
  split
  · exact withL_len _ _ (withoutL_len _ _ h)
  · exact withL_len _ _ h
theorem take_usesI (l : List Int) : List.take l.length (List.drop 0 (l.map encI)) = l.map encI := take_map encI l
theorem wv72 (x : XI) (s : List Int) (hw : Bit.Wd s) (hs : s.length ≤ 1000) (hx : InsIn x) : Wf Tryd.prog H 72 [.agg (encIn x), .sl (s.map encU)] [] = some (.sl ((U.backL x s).map encU), [], []) := by
  obtain ⟨hx1, hx2⟩ := hx
  have h81 := wv81 x
  have h87 := wv87 x hx1
  have hul := usesL_len x
  have h13 := wb13b s [x.d] hw hs (by simp) (fun n hn => by rw [List.mem_singleton.1 hn]; exact hx2)
  have main : ∀ (t : List Int), Bit.Wd t → t.length ≤ 1000 → Wf Tryd.prog H 16 [.sl (t.map encU), .sl ((U.uses x).map encI)] [] = some (.os 0 0 (U.withL t (U.uses x)).length, [.arr 1 (((U.uses x).foldl Bit.putL t).map encU)], []) := fun t ht hl => wb16 t (U.uses x) ht hl (by omega)
  have hfin : ∀ t : List Int, List.take (U.withL t (U.uses x)).length (List.drop 0 (((U.uses x).foldl Bit.putL t).map encU)) = (U.withL t (U.uses x)).map encU := fun t => by rw [take_mapU]; unfold U.withL; rw [neat_take]
  have hwo : List.take (U.withoutL s [x.d]).length (List.drop 0 (([x.d].foldl Bit.dropL s).map encU)) = (U.withoutL s [x.d]).map encU := by rw [take_mapU]; unfold U.withoutL; rw [neat_take]
  cases hd : U.has x.op 68 with
  | true =>
    rw [hd] at h81
    have hm := main (U.withoutL s [x.d]) (withoutL_Wd hw) (withoutL_len _ _ hs)
    have hb : U.backL x s = U.withL (U.withoutL s [x.d]) (U.uses x) := by unfold U.backL; rw [if_pos hd]
    rw [hb]
    refine runK (v72 x.op x.d x.a x.b x.n x.m x.args s true (U.uses x) (U.some x) ([x.d].foldl Bit.dropL s) ((U.uses x).foldl Bit.putL (U.withoutL s [x.d])) (U.withoutL s [x.d]).length (U.withL (U.withoutL s [x.d]) (U.uses x)).length _) ?_
    rw [hwo, hfin, take_usesI]
    refine ⟨h81, h13, ?_⟩
    cases hsm : U.some x with
    | true => rw [hsm] at h87; exact ⟨h87, hm, rfl⟩
    | false =>
      rw [hsm] at h87
      rw [some_no hsm] at hm ⊢
      exact ⟨h87, hm, rfl⟩
  | false =>
    rw [hd] at h81
    have hm := main s hw hs
    have hb : U.backL x s = U.withL s (U.uses x) := by unfold U.backL; rw [if_neg (by rw [hd]; simp)]
    rw [hb]
    refine runK (v72 x.op x.d x.a x.b x.n x.m x.args s false (U.uses x) (U.some x) [] ((U.uses x).foldl Bit.putL s) 0 (U.withL s (U.uses x)).length _) ?_
    rw [hfin, take_usesI]
    refine ⟨h81, ?_⟩
    cases hsm : U.some x with
    | true => rw [hsm] at h87; exact ⟨h87, hm, rfl⟩
    | false =>
      rw [hsm] at h87
      rw [some_no hsm] at hm ⊢
      exact ⟨h87, hm, rfl⟩
theorem thr_len (s : List Int) (h : s.length ≤ 1000) : ∀ l : List XI, (l.foldr U.backL s).length ≤ 1000
  | [] => h
  | x :: l => backL_len x _ (thr_len s h l)
theorem loopv46 (c : List XI) (i : Nat) (s : List Int) (hw : Bit.Wd s) (hs : s.length ≤ 1000) (hc : c.length < 1000000) (hx : ∀ x ∈ c, InsIn x) : ∀ (d j : Nat), j = i + d → j ≤ c.length →
    LoopTo Tryd.prog H (H 46) 0 (loopOf Tryd.prog 46 3) (mkS 32 [(2, goI i), (3, .sl ((U.thrL c j s).map encU)), (9, .sl (c.map encIn)), (10, goI ((j : Int) - 1))] [.dead])
      (.exit 0, mkS 32 [(3, .sl ((U.thrL c i s).map encU))] [.dead])
  | 0, j, hj, hjc => by
    have e : j = i := by omega
    refine turnK (v46_3 i ((j : Int) - 1) c (U.thrL c j s) [] 0 _) ?_
    rw [decide_eq_false (by omega), e]; exact rfl
  | d + 1, j, hj, hjc => by
    have hk : i + d < c.length := by omega
    have ek : (((j : Int) - 1).toNat) = i + d := by omega
    have hb := wv72 (U.ins c (i + d)) (U.thrL c j s) (thr_Wd hw _) (thr_len s hs _) (hx _ (ins_mem hk))
    have e1 : U.thrL c (i + d) s = U.backL (U.ins c (i + d)) (U.thrL c j s) := by
      unfold U.thrL
      rw [drop_ins hk, List.foldr_cons, show i + d + 1 = j by omega]
    have ih := loopv46 c i s hw hs hc hx d (i + d) rfl (by omega)
    rw [e1] at ih
    refine turnK (v46_3 i ((j : Int) - 1) c (U.thrL c j s) (U.backL (U.ins c (i + d)) (U.thrL c j s)) 0 _) ?_
    rw [decide_eq_true (by omega), ek, rowIn hk, getIn hk, wrap64 (by omega) (by omega), show ((j : Int) - 1 - 1) = ((i + d : Nat) : Int) - 1 by omega]
    exact ⟨⟨by omega, rfl⟩, hb, ih⟩
theorem thr_all (c : List XI) (s : List Int) : U.thrL c c.length s = s := by
  unfold U.thrL; rw [List.drop_length]; rfl
section
variable (ks bs : List (List AV)) (p q : Int) (bl : List XB) (hc : CodeOk bl) (hl : bl.length ≤ 3000) (hx : ∀ b ∈ bl, ∀ x ∈ b.code, InsIn x)
include hc hx in
theorem wv46 (b i : Nat) (s : List Int) (hb : b < bl.length) (hi : i ≤ (U.blk bl b).code.length) (hw : Bit.Wd s) (hs : s.length ≤ 1000) :
    Wf Tryd.prog H 46 [.agg [.sl ks, .sl bs, goI p, goI q, .sl (bl.map encB)], goI b, goI i, .sl (s.map encU)] [] = some (.sl ((U.thrL (U.blk bl b).code i s).map encU), [], []) := by
  have hcl := hc _ (blk_mem hb)
  have h := loopv46 (U.blk bl b).code i s hw hs (by omega) (hx _ (blk_mem hb)) ((U.blk bl b).code.length - i) (U.blk bl b).code.length (by omega) (Nat.le_refl _)
  rw [thr_all] at h
  refine runK (v46 ks bs p q bl b i s (U.thrL (U.blk bl b).code i s) _) ?_
  have f1 : rdL (rowAt (bl.map encB) b) 0 = (U.blk bl b).code.map encIn := by rw [rowB hb]; rfl
  have f2 : (bl.map encB)[b]? = some [.sl ((U.blk bl b).code.map encIn)] := getB hb
  rw [f1, f2, List.length_map, wrap64 (by omega) (by omega)]
  exact ⟨⟨by omega, rfl⟩, h, rfl⟩
end
end Go.Proofs.YtdnekkkpngnmkaaDoor.E
