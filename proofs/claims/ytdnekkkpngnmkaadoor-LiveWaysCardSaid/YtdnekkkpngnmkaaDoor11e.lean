/- Functions, by what the evaluator asks; the theorems t.. were printed by show.txt, a program of this session. -/
import Derived.Test.YtdnekkkpngnmkaaDoor11d
import Derived.Test.YtdnekkkpngnmkaaDoorL1
set_option linter.unusedVariables false
set_option linter.unusedSimpArgs false
set_option maxRecDepth 100000
namespace Go.Proofs.YtdnekkkpngnmkaaDoor.E
open Go
def encBo (b : Bool) : List AV := [goB b]
def F91 (s : Bool) (us : List Int) : CallT := fun f args sto => match f with
 | 17 => .by s (.is (.os 0 0 us.length, [.arr 1 (us.map encI)], [])) (.is (.nil, [], []))
 | _ => .no
def L91 (b : Bool) : Nat → St → LT := fun id st => .by b (.is .ret (mkS 21 [(4, goB true)] [.dead])) (.is (.exit 0) (mkS 21 [] [.dead]))
def F77 (a sd : Bool) (d : Int) (rs : Bool) (m : List Bool) : CallT := fun f args sto => match f, args with
 | 91, _ => .is (goB a, [], [])
 | 12, _ => .by sd (.is (.tup [goI d, goB true], [], [])) (.is (.tup [goI 0, goB false], [], []))
 | 27, [.agg [_, _, _, _, .sl b], .v (.int _ n)] => .is (.sl (U.nextR b n), [], [])
 | 77, _ => .is (goB rs, [.arr 1 (m.map encBo)], [])
 | _, _ => .no
def L77 (u w rs : Bool) (b v : Int) (n : Nat) (m : List Bool) : Nat → St → LT := fun id st => match id, st.2 with
 | 3, [M, X] => .by u (.is .ret (mkS 96 [(10, goB true)] [M, .dead])) (.by w (.is .ret (mkS 96 [(10, goB false)] [M, .dead])) (.is (.exit 0) (mkS 96 [(1, goI b), (3, goI v), (4, .os 0 0 n), (5, .pt 1 0 0)] [M, X])))
 | 12, _ => .by rs (.is .ret (mkS 96 [(10, goB true)] [.arr 1 (m.map encBo), .dead])) (.is (.exit 2) (mkS 96 [] [.arr 1 (m.map encBo), .dead]))
 | _, _ => .no
set_option maxHeartbeats 4000000
def F53 (rs : Bool) (m : List Bool) (w : List Int) : CallT := fun f args sto => match f, args with
 | 77, _ => .is (goB rs, [.arr 1 (m.map encBo)], [])
 | 31, _ => .is (.sl (w.map encU), [], [])
 | 58, [.sl x] => .is (.os 0 0 (U.neatR x).length, [.arr 1 (U.neatR x)], [])
 | _, _ => .no
def F18 (t : Bool) (w : List Int) : CallT := fun f args sto => match f with
 | 52 => .is (goB t, [], [])
 | 53 => .is (.sl (w.map encU), [], [])
 | 18 => .is (.sl (w.map encU), [], [])
 | 20 => .is (.sl (w.map encU), [], [])
 | _ => .no
def F25 (w : List Int) : CallT := fun f args sto => match f, args with
 | 15, _ => .is (.sl (w.map encU), [], [])
 | 42, [.sl l, .v (.int _ n)] => .is (goB (U.hasW l n), [], [])
 | _, _ => .no

theorem te91 (op : Int) (d : Int) (a : Int) (b : Int) (n : Int) (m : Int) (l : List Int) (v : Int) (s : Bool) (us : List Int) (t : Bool) (r : AV × List Row × List Nat) : (runT Tryd.prog H (F91 s us) (L91 t) false 91
 [AV.agg [goI op, goI d, goI a, goI b, goI n, goI m, AV.sl (List.map encI l)], goI v] [] fun q => q = r) = (TB s
 (Wf Tryd.prog H 17 [AV.agg [goI op, goI d, goI a, goI b, goI n, goI m, AV.sl (List.map encI l)]] [] =
 some (AV.os 0 0 (List.length us), [Row.arr 1 (List.map encI us)], []) ∧
 TB t
 (LoopTo Tryd.prog H (H 91) 0 (loopOf Tryd.prog 91 3)
 (mkS 21 [(1, goI v), (5, AV.sl (List.take (List.length us) (List.drop 0 (List.map encI us)))), (6, goI 0)]
 [Row.box [goI op, goI d, goI a, goI b, goI n, goI m, AV.sl (List.map encI l)]])
 (Ex.ret, mkS 21 [(4, goB true)] [Row.dead]) ∧
 (goB true, [], []) = r)
 (LoopTo Tryd.prog H (H 91) 0 (loopOf Tryd.prog 91 3)
 (mkS 21 [(1, goI v), (5, AV.sl (List.take (List.length us) (List.drop 0 (List.map encI us)))), (6, goI 0)]
 [Row.box [goI op, goI d, goI a, goI b, goI n, goI m, AV.sl (List.map encI l)]])
 (Ex.exit 0, mkS 21 [] [Row.dead]) ∧
 (goB false, [], []) = r))
 (Wf Tryd.prog H 17 [AV.agg [goI op, goI d, goI a, goI b, goI n, goI m, AV.sl (List.map encI l)]] [] =
 some (AV.nil, [], []) ∧
 TB t
 (LoopTo Tryd.prog H (H 91) 0 (loopOf Tryd.prog 91 3)
 (mkS 21 [(1, goI v), (5, AV.sl []), (6, goI 0)]
 [Row.box [goI op, goI d, goI a, goI b, goI n, goI m, AV.sl (List.map encI l)]])
 (Ex.ret, mkS 21 [(4, goB true)] [Row.dead]) ∧
 (goB true, [], []) = r)
 (LoopTo Tryd.prog H (H 91) 0 (loopOf Tryd.prog 91 3)
 (mkS 21 [(1, goI v), (5, AV.sl []), (6, goI 0)]
 [Row.box [goI op, goI d, goI a, goI b, goI n, goI m, AV.sl (List.map encI l)]])
 (Ex.exit 0, mkS 21 [] [Row.dead]) ∧
 (goB false, [], []) = r))) := by kernel_rfl
theorem te91_3 (X : List AV) (v : Int) (us : List Int) (i : Nat) (r : Ex × St) : (turnT Tryd.prog H (fun f args sto => CT.of (F0 f args sto)) L0 false (H 91) 0 (loopOf Tryd.prog 91 3)
 (mkS 21 [(1, goI v), (5, AV.sl (List.map encI us)), (6, goI (↑i : Int))] [Row.box X]) r) = (TB (decide ((↑i : Int) < (↑(List.length (List.map encI us)) : Int)))
 ((0 ≤ (↑i : Int) ∧ (List.map encI us)[i]? = some [goI (rdI (rowAt (List.map encI us) i) 0)]) ∧
 TB (rdI (rowAt (List.map encI us) i) 0 == v) ((Ex.ret, mkS 21 [(4, goB true)] [Row.dead]) = r)
 (LoopTo Tryd.prog H (H 91) 0 (loopOf Tryd.prog 91 3)
 (mkS 21 [(1, goI v), (5, AV.sl (List.map encI us)), (6, goI (IntKind.wrap IntKind.i64 ((↑i : Int) + 1)))]
 [Row.box X])
 r))
 ((Ex.exit 0, mkS 21 [] [Row.dead]) = r)) := by kernel_rfl
theorem te77 (ks : List (List AV)) (bs : List (List AV)) (p : Int) (q : Int) (bl : List XB) (b : Int) (i : Int) (v : Int) (met : List Bool) (m : List Bool) (u : Bool) (w : Bool) (rs : Bool) (r : AV × List Row × List Nat) : (runT Tryd.prog H (F77 false false 0 rs m) (L77 u w rs b v (List.length met) m) false 77
 [AV.agg [AV.sl ks, AV.sl bs, goI p, goI q, AV.sl (List.map encB bl)], goI b, goI i, goI v,
 AV.os 0 0 (List.length met)]
 [Row.arr 1 (List.map encBo met)] fun q => q = r) = ((0 ≤ b ∧ (List.map encB bl)[Int.toNat b]? = some [AV.sl (rdL (rowAt (List.map encB bl) (Int.toNat b)) 0)]) ∧
 TB u
 (LoopTo Tryd.prog H (H 77) 1 (loopOf Tryd.prog 77 3)
 (mkS 96
 [(1, goI b), (3, goI v), (4, AV.os 0 0 (List.length met)), (5, AV.pt 1 0 0),
 (11, AV.sl (rdL (rowAt (List.map encB bl) (Int.toNat b)) 0)), (12, goI i)]
 [Row.arr 1 (List.map encBo met), Row.box [AV.sl ks, AV.sl bs, goI p, goI q, AV.sl (List.map encB bl)]])
 (Ex.ret, mkS 96 [(10, goB true)] [Row.arr 1 (List.map encBo met), Row.dead]) ∧
 (goB true, [Row.arr 1 (List.map encBo met)], []) = r)
 (TB w
 (LoopTo Tryd.prog H (H 77) 1 (loopOf Tryd.prog 77 3)
 (mkS 96
 [(1, goI b), (3, goI v), (4, AV.os 0 0 (List.length met)), (5, AV.pt 1 0 0),
 (11, AV.sl (rdL (rowAt (List.map encB bl) (Int.toNat b)) 0)), (12, goI i)]
 [Row.arr 1 (List.map encBo met), Row.box [AV.sl ks, AV.sl bs, goI p, goI q, AV.sl (List.map encB bl)]])
 (Ex.ret, mkS 96 [(10, goB false)] [Row.arr 1 (List.map encBo met), Row.dead]) ∧
 (goB false, [Row.arr 1 (List.map encBo met)], []) = r)
 (LoopTo Tryd.prog H (H 77) 1 (loopOf Tryd.prog 77 3)
 (mkS 96
 [(1, goI b), (3, goI v), (4, AV.os 0 0 (List.length met)), (5, AV.pt 1 0 0),
 (11, AV.sl (rdL (rowAt (List.map encB bl) (Int.toNat b)) 0)), (12, goI i)]
 [Row.arr 1 (List.map encBo met), Row.box [AV.sl ks, AV.sl bs, goI p, goI q, AV.sl (List.map encB bl)]])
 (Ex.exit 0,
 mkS 96 [(1, goI b), (3, goI v), (4, AV.os 0 0 (List.length met)), (5, AV.pt 1 0 0)]
 [Row.arr 1 (List.map encBo met), Row.box [AV.sl ks, AV.sl bs, goI p, goI q, AV.sl (List.map encB bl)]]) ∧
 Wf Tryd.prog H 27 [AV.agg [AV.sl ks, AV.sl bs, goI p, goI q, AV.sl (List.map encB bl)], goI b] [] =
 some (AV.sl (U.nextR (List.map encB bl) b), [], []) ∧
 TB rs
 (LoopTo Tryd.prog H (H 77) 1 (loopOf Tryd.prog 77 12)
 (mkS 96
 [(3, goI v), (4, AV.os 0 0 (List.length met)), (5, AV.pt 1 0 0),
 (15, AV.sl (U.nextR (List.map encB bl) b)), (16, goI 0)]
 [Row.arr 1 (List.map encBo met),
 Row.box [AV.sl ks, AV.sl bs, goI p, goI q, AV.sl (List.map encB bl)]])
 (Ex.ret, mkS 96 [(10, goB true)] [Row.arr 1 (List.map encBo m), Row.dead]) ∧
 (goB true, [Row.arr 1 (List.map encBo m)], []) = r)
 (LoopTo Tryd.prog H (H 77) 1 (loopOf Tryd.prog 77 12)
 (mkS 96
 [(3, goI v), (4, AV.os 0 0 (List.length met)), (5, AV.pt 1 0 0),
 (15, AV.sl (U.nextR (List.map encB bl) b)), (16, goI 0)]
 [Row.arr 1 (List.map encBo met),
 Row.box [AV.sl ks, AV.sl bs, goI p, goI q, AV.sl (List.map encB bl)]])
 (Ex.exit 2, mkS 96 [] [Row.arr 1 (List.map encBo m), Row.dead]) ∧
 (goB false, [Row.arr 1 (List.map encBo m)], []) = r)))) := by kernel_rfl
theorem te77_3 (ks : List (List AV)) (bs : List (List AV)) (p : Int) (q : Int) (bl : List XB) (b : Int) (v : Int) (met : List Bool) (c : List XI) (j : Nat) (a : Bool) (sd : Bool) (d : Int) (r : Ex × St) : (turnT Tryd.prog H (F77 a sd d false []) L0 false (H 77) 1 (loopOf Tryd.prog 77 3)
 (mkS 96
 [(1, goI b), (3, goI v), (4, AV.os 0 0 (List.length met)), (5, AV.pt 1 0 0), (11, AV.sl (List.map encIn c)),
 (12, goI (↑j : Int))]
 [Row.arr 1 (List.map encBo met), Row.box [AV.sl ks, AV.sl bs, goI p, goI q, AV.sl (List.map encB bl)]])
 r) = (TB (decide ((↑j : Int) < (↑(List.length (List.map encIn c)) : Int)))
 ((0 ≤ (↑j : Int) ∧
 (List.map encIn c)[j]? =
 some
 [goI (rdI (rowAt (List.map encIn c) j) 0), goI (rdI (rowAt (List.map encIn c) j) 1),
 goI (rdI (rowAt (List.map encIn c) j) 2), goI (rdI (rowAt (List.map encIn c) j) 3),
 goI (rdI (rowAt (List.map encIn c) j) 4), goI (rdI (rowAt (List.map encIn c) j) 5),
 AV.sl (rdL (rowAt (List.map encIn c) j) 6)]) ∧
 Wf Tryd.prog H 91
 [AV.agg
 [goI (rdI (rowAt (List.map encIn c) j) 0), goI (rdI (rowAt (List.map encIn c) j) 1),
 goI (rdI (rowAt (List.map encIn c) j) 2), goI (rdI (rowAt (List.map encIn c) j) 3),
 goI (rdI (rowAt (List.map encIn c) j) 4), goI (rdI (rowAt (List.map encIn c) j) 5),
 AV.sl (rdL (rowAt (List.map encIn c) j) 6)],
 goI v]
 [] =
 some (goB a, [], []) ∧
 TB a ((Ex.ret, mkS 96 [(10, goB true)] [Row.arr 1 (List.map encBo met), Row.dead]) = r)
 ((0 ≤ (↑j : Int) ∧
 (List.map encIn c)[j]? =
 some
 [goI (rdI (rowAt (List.map encIn c) j) 0), goI (rdI (rowAt (List.map encIn c) j) 1),
 goI (rdI (rowAt (List.map encIn c) j) 2), goI (rdI (rowAt (List.map encIn c) j) 3),
 goI (rdI (rowAt (List.map encIn c) j) 4), goI (rdI (rowAt (List.map encIn c) j) 5),
 AV.sl (rdL (rowAt (List.map encIn c) j) 6)]) ∧
 TB sd
 (Wf Tryd.prog H 12
 [AV.agg
 [goI (rdI (rowAt (List.map encIn c) j) 0), goI (rdI (rowAt (List.map encIn c) j) 1),
 goI (rdI (rowAt (List.map encIn c) j) 2), goI (rdI (rowAt (List.map encIn c) j) 3),
 goI (rdI (rowAt (List.map encIn c) j) 4), goI (rdI (rowAt (List.map encIn c) j) 5),
 AV.sl (rdL (rowAt (List.map encIn c) j) 6)]]
 [] =
 some (AV.tup [goI d, goB true], [], []) ∧
 TB (d == v) ((Ex.ret, mkS 96 [(10, goB false)] [Row.arr 1 (List.map encBo met), Row.dead]) = r)
 (LoopTo Tryd.prog H (H 77) 1 (loopOf Tryd.prog 77 3)
 (mkS 96
 [(1, goI b), (3, goI v), (4, AV.os 0 0 (List.length met)), (5, AV.pt 1 0 0),
 (11, AV.sl (List.map encIn c)), (12, goI (IntKind.wrap IntKind.i64 ((↑j : Int) + 1)))]
 [Row.arr 1 (List.map encBo met),
 Row.box [AV.sl ks, AV.sl bs, goI p, goI q, AV.sl (List.map encB bl)]])
 r))
 (Wf Tryd.prog H 12
 [AV.agg
 [goI (rdI (rowAt (List.map encIn c) j) 0), goI (rdI (rowAt (List.map encIn c) j) 1),
 goI (rdI (rowAt (List.map encIn c) j) 2), goI (rdI (rowAt (List.map encIn c) j) 3),
 goI (rdI (rowAt (List.map encIn c) j) 4), goI (rdI (rowAt (List.map encIn c) j) 5),
 AV.sl (rdL (rowAt (List.map encIn c) j) 6)]]
 [] =
 some (AV.tup [goI 0, goB false], [], []) ∧
 LoopTo Tryd.prog H (H 77) 1 (loopOf Tryd.prog 77 3)
 (mkS 96
 [(1, goI b), (3, goI v), (4, AV.os 0 0 (List.length met)), (5, AV.pt 1 0 0),
 (11, AV.sl (List.map encIn c)), (12, goI (IntKind.wrap IntKind.i64 ((↑j : Int) + 1)))]
 [Row.arr 1 (List.map encBo met),
 Row.box [AV.sl ks, AV.sl bs, goI p, goI q, AV.sl (List.map encB bl)]])
 r)))
 ((Ex.exit 0,
 mkS 96 [(1, goI b), (3, goI v), (4, AV.os 0 0 (List.length met)), (5, AV.pt 1 0 0)]
 [Row.arr 1 (List.map encBo met), Row.box [AV.sl ks, AV.sl bs, goI p, goI q, AV.sl (List.map encB bl)]]) =
 r)) := by kernel_rfl
theorem te77_12 (ks : List (List AV)) (bs : List (List AV)) (p : Int) (q : Int) (bl : List XB) (v : Int) (met : List Bool) (m : List Bool) (t : List Int) (k : Nat) (rs : Bool) (r : Ex × St) : (turnT Tryd.prog H (F77 false false 0 rs m) L0 false (H 77) 1 (loopOf Tryd.prog 77 12)
 (mkS 96
 [(3, goI v), (4, AV.os 0 0 (List.length met)), (5, AV.pt 1 0 0), (15, AV.sl (List.map encI t)),
 (16, goI (↑k : Int))]
 [Row.arr 1 (List.map encBo met), Row.box [AV.sl ks, AV.sl bs, goI p, goI q, AV.sl (List.map encB bl)]])
 r) = (TB (decide ((↑k : Int) < (↑(List.length (List.map encI t)) : Int)))
 ((0 ≤ (↑k : Int) ∧ (List.map encI t)[k]? = some [goI (rdI (rowAt (List.map encI t) k) 0)]) ∧
 TB (decide (rdI (rowAt (List.map encI t) k) 0 < 0))
 (LoopTo Tryd.prog H (H 77) 1 (loopOf Tryd.prog 77 12)
 (mkS 96
 [(3, goI v), (4, AV.os 0 0 (List.length met)), (5, AV.pt 1 0 0), (15, AV.sl (List.map encI t)),
 (16, goI (IntKind.wrap IntKind.i64 ((↑k : Int) + 1)))]
 [Row.arr 1 (List.map encBo met), Row.box [AV.sl ks, AV.sl bs, goI p, goI q, AV.sl (List.map encB bl)]])
 r)
 ((0 ≤ (↑k : Int) ∧ (List.map encI t)[k]? = some [goI (rdI (rowAt (List.map encI t) k) 0)]) ∧
 TB (decide (rdI (rowAt (List.map encI t) k) 0 ≥ (↑(List.length met) : Int)))
 (LoopTo Tryd.prog H (H 77) 1 (loopOf Tryd.prog 77 12)
 (mkS 96
 [(3, goI v), (4, AV.os 0 0 (List.length met)), (5, AV.pt 1 0 0), (15, AV.sl (List.map encI t)),
 (16, goI (IntKind.wrap IntKind.i64 ((↑k : Int) + 1)))]
 [Row.arr 1 (List.map encBo met), Row.box [AV.sl ks, AV.sl bs, goI p, goI q, AV.sl (List.map encB bl)]])
 r)
 ((0 ≤ (↑k : Int) ∧ (List.map encI t)[k]? = some [goI (rdI (rowAt (List.map encI t) k) 0)]) ∧
 (0 ≤ rdI (rowAt (List.map encI t) k) 0 ∧
 rdI (rowAt (List.map encI t) k) 0 < (↑(List.length met) : Int) ∧
 0 + Int.toNat (rdI (rowAt (List.map encI t) k) 0) < List.length (List.map encBo met)) ∧
 cutAt 1 0 (List.map encBo met)[0 + Int.toNat (rdI (rowAt (List.map encI t) k) 0)]? =
 some [goB (rdB (rowAt (List.map encBo met) (0 + Int.toNat (rdI (rowAt (List.map encI t) k) 0))) 0)] ∧
 TB (rdB (rowAt (List.map encBo met) (0 + Int.toNat (rdI (rowAt (List.map encI t) k) 0))) 0)
 (LoopTo Tryd.prog H (H 77) 1 (loopOf Tryd.prog 77 12)
 (mkS 96
 [(3, goI v), (4, AV.os 0 0 (List.length met)), (5, AV.pt 1 0 0), (15, AV.sl (List.map encI t)),
 (16, goI (IntKind.wrap IntKind.i64 ((↑k : Int) + 1)))]
 [Row.arr 1 (List.map encBo met),
 Row.box [AV.sl ks, AV.sl bs, goI p, goI q, AV.sl (List.map encB bl)]])
 r)
 ((0 ≤ (↑k : Int) ∧ (List.map encI t)[k]? = some [goI (rdI (rowAt (List.map encI t) k) 0)]) ∧
 (0 ≤ rdI (rowAt (List.map encI t) k) 0 ∧
 rdI (rowAt (List.map encI t) k) 0 < (↑(List.length met) : Int) ∧
 0 + Int.toNat (rdI (rowAt (List.map encI t) k) 0) < List.length (List.map encBo met)) ∧
 Option.map List.length (List.map encBo met)[0 + Int.toNat (rdI (rowAt (List.map encI t) k) 0)]? =
 some 1 ∧
 (0 ≤ (↑k : Int) ∧ (List.map encI t)[k]? = some [goI (rdI (rowAt (List.map encI t) k) 0)]) ∧
 Wf Tryd.prog H 77
 [AV.agg [AV.sl ks, AV.sl bs, goI p, goI q, AV.sl (List.map encB bl)],
 goI (rdI (rowAt (List.map encI t) k) 0), goI 0, goI v, AV.os 0 0 (List.length met)]
 [Row.arr 1
 (List.set (List.map encBo met) (0 + Int.toNat (rdI (rowAt (List.map encI t) k) 0))
 [goB true])] =
 some (goB rs, [Row.arr 1 (List.map encBo m)], []) ∧
 TB rs ((Ex.ret, mkS 96 [(10, goB true)] [Row.arr 1 (List.map encBo m), Row.dead]) = r)
 (LoopTo Tryd.prog H (H 77) 1 (loopOf Tryd.prog 77 12)
 (mkS 96
 [(3, goI v), (4, AV.os 0 0 (List.length met)), (5, AV.pt 1 0 0),
 (15, AV.sl (List.map encI t)),
 (16, goI (IntKind.wrap IntKind.i64 ((↑k : Int) + 1)))]
 [Row.arr 1 (List.map encBo m),
 Row.box [AV.sl ks, AV.sl bs, goI p, goI q, AV.sl (List.map encB bl)]])
 r)))))
 ((Ex.exit 2, mkS 96 [] [Row.arr 1 (List.map encBo met), Row.dead]) = r)) := by kernel_rfl
theorem te52 (ks : List (List AV)) (bs : List (List AV)) (p : Int) (q : Int) (bl : List XB) (b : Int) (i : Int) (r : AV × List Row × List Nat) : (runT Tryd.prog H (fun f args sto => CT.of (F0 f args sto)) L0 false 52
 [AV.agg [AV.sl ks, AV.sl bs, goI p, goI q, AV.sl (List.map encB bl)], goI b, goI i] [] fun q => q = r) = (TB (decide (b ≥ 0))
 (TB (decide (b < (↑(List.length (List.map encB bl)) : Int)))
 (TB (decide (i ≥ 0))
 ((0 ≤ b ∧ (List.map encB bl)[Int.toNat b]? = some [AV.sl (rdL (rowAt (List.map encB bl) (Int.toNat b)) 0)]) ∧
 (goB (decide (i < (↑(List.length (rdL (rowAt (List.map encB bl) (Int.toNat b)) 0)) : Int))), [], []) = r)
 ((goB false, [], []) = r))
 ((goB false, [], []) = r))
 ((goB false, [], []) = r)) := by kernel_rfl
theorem te53 (K : List (List AV)) (bs : List (List AV)) (p : Int) (q : Int) (bl : List XB) (b : Int) (i : Int) (w : List Int) (r : AV × List Row × List Nat) : (runT Tryd.prog H (F53 false [] [])
 (fun id st => LT.is (Ex.exit 0) (mkS 31 [(7, AV.sl (List.map encU w))] [Row.dead, Row.dead])) false 53
 [AV.agg [AV.sl K, AV.sl bs, goI p, goI q, AV.sl (List.map encB bl)], goI b, goI i] [] fun q => q = r) = (LoopTo Tryd.prog H (H 53) 0 (loopOf Tryd.prog 53 3)
 (mkS 31 [(1, goI b), (2, goI i), (3, AV.pt 0 0 0), (7, AV.sl []), (8, goI 0)]
 [Row.box [AV.sl K, AV.sl bs, goI p, goI q, AV.sl (List.map encB bl)], Row.dead])
 (Ex.exit 0, mkS 31 [(7, AV.sl (List.map encU w))] [Row.dead, Row.dead]) ∧
 Wf Tryd.prog H 58 [AV.sl (List.map encU w)] [] =
 some (AV.os 0 0 (List.length (U.neatR (List.map encU w))), [Row.arr 1 (U.neatR (List.map encU w))], []) ∧
 (AV.sl (List.take (List.length (U.neatR (List.map encU w))) (List.drop 0 (U.neatR (List.map encU w)))), [], []) = r) := by kernel_rfl
theorem te53_3 (K : List (List AV)) (bs : List (List AV)) (p : Int) (q : Int) (bl : List XB) (b : Int) (i : Int) (s : List Int) (w : List Int) (v : Nat) (rs : Bool) (m : List Bool) (r : Ex × St) : (turnT Tryd.prog H (F53 rs m w) L0 false (H 53) 0 (loopOf Tryd.prog 53 3)
 (mkS 31 [(1, goI b), (2, goI i), (3, AV.pt 0 0 0), (7, AV.sl (List.map encU s)), (8, goI (↑v : Int))]
 [Row.box [AV.sl K, AV.sl bs, goI p, goI q, AV.sl (List.map encB bl)], Row.dead])
 r) = (TB (decide ((↑v : Int) < (↑(List.length K) : Int)))
 ((0 ≤ (↑(List.length (List.map encB bl)) : Int) ∧
 (↑(List.length (List.map encB bl)) : Int) ≤ (↑(List.length (List.map encB bl)) : Int) ∧
 (↑(List.length (List.map encB bl)) : Int) ≤ (↑1000000 : Int)) ∧
 Wf Tryd.prog H 77
 [AV.agg [AV.sl K, AV.sl bs, goI p, goI q, AV.sl (List.map encB bl)], goI b, goI i, goI (↑v : Int),
 AV.os 0 0 (List.length (List.replicate (List.length (List.map encB bl)) [goB false]))]
 [Row.arr 1 (List.replicate (List.length (List.map encB bl)) [goB false])] =
 some (goB rs, [Row.arr 1 (List.map encBo m)], []) ∧
 TB rs
 (Wf Tryd.prog H 31 [AV.sl (List.map encU s), AV.sl [[goI (↑v : Int)]]] [] =
 some (AV.sl (List.map encU w), [], []) ∧
 LoopTo Tryd.prog H (H 53) 0 (loopOf Tryd.prog 53 3)
 (mkS 31
 [(1, goI b), (2, goI i), (3, AV.pt 0 0 0), (7, AV.sl (List.map encU w)),
 (8, goI (IntKind.wrap IntKind.i64 ((↑v : Int) + 1)))]
 [Row.box [AV.sl K, AV.sl bs, goI p, goI q, AV.sl (List.map encB bl)], Row.dead])
 r)
 (LoopTo Tryd.prog H (H 53) 0 (loopOf Tryd.prog 53 3)
 (mkS 31
 [(1, goI b), (2, goI i), (3, AV.pt 0 0 0), (7, AV.sl (List.map encU s)),
 (8, goI (IntKind.wrap IntKind.i64 ((↑v : Int) + 1)))]
 [Row.box [AV.sl K, AV.sl bs, goI p, goI q, AV.sl (List.map encB bl)], Row.dead])
 r))
 ((Ex.exit 0, mkS 31 [(7, AV.sl (List.map encU s))] [Row.dead, Row.dead]) = r)) := by kernel_rfl
theorem te18 (ks : List (List AV)) (bs : List (List AV)) (p : Int) (q : Int) (bl : List XB) (b : Int) (i : Int) (t : Bool) (w : List Int) (r : AV × List Row × List Nat) : (runT Tryd.prog H (F18 t w) L0 false 18
 [AV.agg [AV.sl ks, AV.sl bs, goI p, goI q, AV.sl (List.map encB bl)], goI b, goI i] [] fun q => q = r) = (Wf Tryd.prog H 52 [AV.agg [AV.sl ks, AV.sl bs, goI p, goI q, AV.sl (List.map encB bl)], goI b, goI i] [] =
 some (goB t, [], []) ∧
 TB (!t) ((AV.sl [], [], []) = r)
 (Wf Tryd.prog H 53 [AV.agg [AV.sl ks, AV.sl bs, goI p, goI q, AV.sl (List.map encB bl)], goI b, goI i] [] =
 some (AV.sl (List.map encU w), [], []) ∧
 (AV.sl (List.map encU w), [], []) = r)) := by kernel_rfl
theorem te20 (ks : List (List AV)) (bs : List (List AV)) (p : Int) (q : Int) (bl : List XB) (b : Int) (i : Int) (t : Bool) (w : List Int) (r : AV × List Row × List Nat) : (runT Tryd.prog H (F18 t w) L0 false 20
 [AV.agg [AV.sl ks, AV.sl bs, goI p, goI q, AV.sl (List.map encB bl)], goI b, goI i] [] fun q => q = r) = (Wf Tryd.prog H 52 [AV.agg [AV.sl ks, AV.sl bs, goI p, goI q, AV.sl (List.map encB bl)], goI b, goI i] [] =
 some (goB t, [], []) ∧
 TB (!t) ((AV.sl [], [], []) = r)
 (Wf Tryd.prog H 53
 [AV.agg [AV.sl ks, AV.sl bs, goI p, goI q, AV.sl (List.map encB bl)], goI b,
 goI (IntKind.wrap IntKind.i64 (i + 1))]
 [] =
 some (AV.sl (List.map encU w), [], []) ∧
 (AV.sl (List.map encU w), [], []) = r)) := by kernel_rfl
theorem te22 (ks : List (List AV)) (bs : List (List AV)) (p : Int) (q : Int) (bl : List XB) (b : Int) (w : List Int) (r : AV × List Row × List Nat) : (runT Tryd.prog H (F18 false w) L0 false 22 [AV.agg [AV.sl ks, AV.sl bs, goI p, goI q, AV.sl (List.map encB bl)], goI b]
 [] fun q => q = r) = (Wf Tryd.prog H 18 [AV.agg [AV.sl ks, AV.sl bs, goI p, goI q, AV.sl (List.map encB bl)], goI b, goI 0] [] =
 some (AV.sl (List.map encU w), [], []) ∧
 (AV.sl (List.map encU w), [], []) = r) := by kernel_rfl
theorem te24 (ks : List (List AV)) (bs : List (List AV)) (p : Int) (q : Int) (bl : List XB) (b : Int) (w : List Int) (r : AV × List Row × List Nat) : (runT Tryd.prog H (F18 false w) L0 false 24 [AV.agg [AV.sl ks, AV.sl bs, goI p, goI q, AV.sl (List.map encB bl)], goI b]
 [] fun q => q = r) = (TB (decide (b < 0)) ((AV.sl [], [], []) = r)
 (TB (decide (b ≥ (↑(List.length (List.map encB bl)) : Int))) ((AV.sl [], [], []) = r)
 ((0 ≤ b ∧ (List.map encB bl)[Int.toNat b]? = some [AV.sl (rdL (rowAt (List.map encB bl) (Int.toNat b)) 0)]) ∧
 Wf Tryd.prog H 20
 [AV.agg [AV.sl ks, AV.sl bs, goI p, goI q, AV.sl (List.map encB bl)], goI b,
 goI
 (IntKind.wrap IntKind.i64
 ((↑(List.length (rdL (rowAt (List.map encB bl) (Int.toNat b)) 0)) : Int) - 1))]
 [] =
 some (AV.sl (List.map encU w), [], []) ∧
 (AV.sl (List.map encU w), [], []) = r))) := by kernel_rfl
theorem te25 (ks : List (List AV)) (bs : List (List AV)) (p : Int) (q : Int) (bl : List XB) (b : Int) (i : Int) (v : Int) (w : List Int) (r : AV × List Row × List Nat) : (runT Tryd.prog H (F25 w) L0 false 25
 [AV.agg [AV.sl ks, AV.sl bs, goI p, goI q, AV.sl (List.map encB bl)], goI b, goI i, goI v] [] fun q => q = r) = (Wf Tryd.prog H 15 [AV.agg [AV.sl ks, AV.sl bs, goI p, goI q, AV.sl (List.map encB bl)], goI b, goI i] [] =
 some (AV.sl (List.map encU w), [], []) ∧
 Wf Tryd.prog H 42 [AV.sl (List.map encU w), goI v] [] = some (goB (U.hasW (List.map encU w) v), [], []) ∧
 (goB (U.hasW (List.map encU w) v), [], []) = r) := by kernel_rfl
theorem rowBo {m : List Bool} {i : Nat} (h : i < m.length) : rdB (rowAt (m.map encBo) (0 + i)) 0 = m.getD i default ∧ (m.map encBo)[0 + i]? = some [goB (m.getD i default)] := by
  have e1 : rowAt (m.map encBo) i = encBo (m.getD i default) := rowAt_map h
  have e2 : (m.map encBo)[i]? = some (encBo (m.getD i default)) := rows_map h
  rw [Nat.zero_add, e1, e2]; exact ⟨rfl, rfl⟩
theorem setBo (m : List Bool) (i : Nat) (b : Bool) : (m.map encBo).set (0 + i) [goB b] = (m.set i b).map encBo := by rw [Nat.zero_add]; exact set_map encBo m i b
theorem repBo (n : Nat) : List.replicate n [goB false] = (List.replicate n false).map encBo := by rw [List.map_replicate]; rfl
theorem loope91 (X : List AV) (v : Int) (us : List Int) (hl : us.length < 1000000) : ∀ (d i : Nat), i + d = us.length →
    LoopTo Tryd.prog H (H 91) 0 (loopOf Tryd.prog 91 3) (mkS 21 [(1, goI v), (5, .sl (us.map encI)), (6, goI i)] [.box X]) (if U.hasFrom us v d i then (.ret, mkS 21 [(4, goB true)] [.dead]) else (.exit 0, mkS 21 [] [.dead]))
  | 0, i, hd => by
    refine turnK (te91_3 X v us i _) ?_
    rw [List.length_map, decide_eq_false (by omega)]
    exact rfl
  | d + 1, i, hd => by
    have hi : i < us.length := by omega
    have ih := loope91 X v us hl d (i + 1) (by omega)
    refine turnK (te91_3 X v us i _) ?_
    rw [List.length_map, decide_eq_true (by omega), wrapS hi hl, rowI hi, getI hi, show U.hasFrom us v (d + 1) i = ((U.nt us i == v) || U.hasFrom us v d (i + 1)) from rfl]
    simp only [rdI, List.getD_cons_zero, int_goI]
    refine ⟨⟨by omega, by trivial⟩, ?_⟩
    cases (U.nt us i == v) with
    | true => exact rfl
    | false => exact ih
theorem we91 (x : XI) (v : Int) (hl : x.args.length ≤ 3000) : Wf Tryd.prog H 91 [.agg (encIn x), goI v] [] = some (goB (U.hasI (U.uses x) v), [], []) := by
  have h57 := wf57 x hl
  have hul := usesL_len x
  have h := loope91 [goI x.op, goI x.d, goI x.a, goI x.b, goI x.n, goI x.m, .sl (x.args.map encI)] v (U.uses x) (by omega) (U.uses x).length 0 (by omega)
  rw [show U.hasFrom (U.uses x) v (U.uses x).length 0 = U.hasI (U.uses x) v from rfl] at h
  refine runK (te91 x.op x.d x.a x.b x.n x.m x.args v (U.some x) (U.uses x) (U.hasI (U.uses x) v) _) ?_
  rw [take_usesI]
  cases hs : U.some x with
  | true =>
    rw [hs] at h57
    refine ⟨h57, ?_⟩
    cases hb : U.hasI (U.uses x) v with
    | true => rw [hb] at h; exact ⟨h, rfl⟩
    | false => rw [hb] at h; exact ⟨h, rfl⟩
  | false =>
    rw [hs] at h57
    rw [some_no hs] at h ⊢
    refine ⟨h57, ?_⟩
    cases hb : U.hasI [] v with
    | true => rw [hb] at h; exact ⟨h, rfl⟩
    | false => rw [hb] at h; exact ⟨h, rfl⟩
def R77 (b v : Int) (n : Nat) (M X : Row) : Option Bool → Ex × St
  | some r => (.ret, mkS 96 [(10, goB r)] [M, .dead])
  | none => (.exit 0, mkS 96 [(1, goI b), (3, goI v), (4, .os 0 0 n), (5, .pt 1 0 0)] [M, X])
def R12 (e : Bool × List Bool) : Ex × St := if e.1 then (.ret, mkS 96 [(10, goB true)] [.arr 1 (e.2.map encBo), .dead]) else (.exit 2, mkS 96 [] [.arr 1 (e.2.map encBo), .dead])
section
variable (ks bs : List (List AV)) (p q : Int) (bl : List XB) (hc : CodeOk bl) (hx : ∀ b ∈ bl, ∀ x ∈ b.code, InsIn x)
theorem loope77_3 (b v : Int) (met : List Bool) (c : List XI) (hcl : c.length ≤ 3000) (ha : ∀ x ∈ c, InsIn x) : ∀ (d j : Nat), j + d = c.length →
    LoopTo Tryd.prog H (H 77) 1 (loopOf Tryd.prog 77 3) (mkS 96 [(1, goI b), (3, goI v), (4, .os 0 0 met.length), (5, .pt 1 0 0), (11, .sl (c.map encIn)), (12, goI j)] [.arr 1 (met.map encBo), .box [.sl ks, .sl bs, goI p, goI q, .sl (bl.map encB)]])
      (R77 b v met.length (.arr 1 (met.map encBo)) (.box [.sl ks, .sl bs, goI p, goI q, .sl (bl.map encB)]) (U.scanI v (c.drop j)))
  | 0, j, hd => by
    rw [List.drop_of_length_le (by omega)]
    refine turnK (te77_3 ks bs p q bl b v met c j false false 0 _) ?_
    rw [List.length_map, decide_eq_false (by omega)]
    exact rfl
  | d + 1, j, hd => by
    have hj : j < c.length := by omega
    have ih := loope77_3 b v met c hcl ha d (j + 1) (by omega)
    have hins := ha _ (ins_mem hj)
    have h91 := we91 (U.ins c j) v hins.1
    have h82 := wf82 (U.ins c j).op (U.ins c j).d (U.ins c j).a (U.ins c j).b (U.ins c j).n (U.ins c j).m (U.ins c j).args
    rw [drop_ins hj]
    unfold U.scanI
    refine turnK (te77_3 ks bs p q bl b v met c j (U.hasI (U.uses (U.ins c j)) v) (U.has (U.ins c j).op 68) (U.ins c j).d _) ?_
    rw [List.length_map, decide_eq_true (by omega), wrapS hj (by omega), rowIn hj, getIn hj]
    simp only [encIn, rdI, rdL, slOf, List.getD_cons_zero, List.getD_cons_succ, int_goI]
    refine ⟨⟨by omega, by trivial⟩, h91, ?_⟩
    cases U.hasI (U.uses (U.ins c j)) v with
    | true => exact rfl
    | false =>
      refine ⟨⟨by omega, by trivial⟩, ?_⟩
      cases hs : U.has (U.ins c j).op 68 with
      | true =>
        rw [hs] at h82
        refine ⟨h82, ?_⟩
        cases hv : ((U.ins c j).d == v) with
        | true => exact rfl
        | false => exact ih
      | false =>
        rw [hs] at h82
        exact ⟨h82, ih⟩
section
variable (v : Int) (k : Nat) (R : Int → List Bool → Bool × List Bool)
  (hR : ∀ (t : Int) (m : List Bool), U.unm m + 1 ≤ k → 0 ≤ t → t < bl.length → m.length = bl.length →
    Wf Tryd.prog H 77 [.agg [.sl ks, .sl bs, goI p, goI q, .sl (bl.map encB)], goI t, goI 0, goI v, .os 0 0 bl.length] [.arr 1 (m.map encBo)] = some (goB (R t m).1, [.arr 1 ((R t m).2.map encBo)], []))
  (hfar : ∀ t m, FarM m (R t m).2)
include hR hfar
theorem loope77_12 (t : List Int) (ht : t.length ≤ 2) (hin : ∀ x ∈ t, 0 ≤ x ∧ x < bl.length) : ∀ (d i : Nat) (met : List Bool), i + d = t.length → met.length = bl.length → U.unm met ≤ k →
    LoopTo Tryd.prog H (H 77) 1 (loopOf Tryd.prog 77 12) (mkS 96 [(3, goI v), (4, .os 0 0 bl.length), (5, .pt 1 0 0), (15, .sl (t.map encI)), (16, goI i)] [.arr 1 (met.map encBo), .box [.sl ks, .sl bs, goI p, goI q, .sl (bl.map encB)]])
      (R12 (U.goN R (t.drop i) met))
  | 0, i, met, hd, hm, hu => by
    rw [List.drop_of_length_le (by omega), ← hm]
    refine turnK (te77_12 ks bs p q bl v met [] t i false _) ?_
    rw [List.length_map, decide_eq_false (by omega)]
    exact rfl
  | d + 1, i, met, hd, hm, hu => by
    have hi : i < t.length := by omega
    have ed : t.drop i = U.nt t i :: t.drop (i + 1) := drop_cons' t hi
    have e1 : rdI (rowAt (t.map encI) i) 0 = U.nt t i := by rw [rowI hi]; rfl
    obtain ⟨x0, x1⟩ := hin (U.nt t i) (getD_mem hi)
    have hlt : (U.nt t i).toNat < met.length := by omega
    obtain ⟨b1, b2⟩ := rowBo hlt
    have hin1 : 0 ≤ U.nt t i ∧ U.nt t i < (met.length : Int) ∧ 0 + (U.nt t i).toNat < (met.map encBo).length := ⟨by omega, by omega, by rw [List.length_map]; omega⟩
    have hsk : U.skip met (U.nt t i) = met.getD (U.nt t i).toNat default := by
      unfold U.skip
      rw [decide_eq_false (by omega), decide_eq_false (by omega), Bool.false_or, Bool.false_or]
    rw [ed]
    unfold U.goN
    rw [hsk]
    have ihS := loope77_12 t ht hin d (i + 1) met (by omega) hm hu
    cases hg : met.getD (U.nt t i).toNat default with
    | true =>
      rw [if_pos rfl, ← hm]
      rw [← hm] at ihS
      refine turnK (te77_12 ks bs p q bl v met [] t i false _) ?_
      rw [List.length_map, decide_eq_true (by omega), e1, getI hi, decide_eq_false (by omega), decide_eq_false (by omega), b1, b2, hg, wrapS hi (by omega)]
      exact ⟨⟨by omega, rfl⟩, ⟨by omega, rfl⟩, ⟨by omega, rfl⟩, hin1, rfl, ihS⟩
    | false =>
      have hset := FarM.set (m := met) (t := U.nt t i) (by rw [hsk, hg])
      have h3 := unm_set met (U.nt t i).toNat hlt hg
      have hlen : (met.set (U.nt t i).toNat true).length = bl.length := by rw [List.length_set]; exact hm
      have hw := hR (U.nt t i) (met.set (U.nt t i).toNat true) (by omega) x0 x1 hlen
      have hf := hfar (U.nt t i) (met.set (U.nt t i).toNat true)
      have hl2 := hf.len
      have hu2 := hf.unm
      rw [if_neg (by simp)]
      generalize R (U.nt t i) (met.set (U.nt t i).toNat true) = e at hw hl2 hu2 ⊢
      obtain ⟨rs, m⟩ := e
      simp only at hw hl2 hu2 ⊢
      have ih := loope77_12 t ht hin d (i + 1) m (by omega) (by omega) (by omega)
      rw [← hm] at hw ih ⊢
      refine turnK (te77_12 ks bs p q bl v met m t i rs _) ?_
      rw [List.length_map, decide_eq_true (by omega), e1, getI hi, decide_eq_false (by omega), decide_eq_false (by omega), b1, b2, hg, wrapS hi (by omega), setBo]
      refine ⟨⟨by omega, rfl⟩, ⟨by omega, rfl⟩, ⟨by omega, rfl⟩, hin1, rfl, ⟨by omega, rfl⟩, hin1, rfl, ⟨by omega, rfl⟩, hw, ?_⟩
      cases rs with
      | true => exact rfl
      | false => exact ih
include hc hx in
theorem we77_gen (hnx : ∀ b : Nat, b < bl.length → ∀ x ∈ U.nextAt bl b, 0 ≤ x ∧ x < bl.length) (b i : Nat) (met : List Bool) (hb : b < bl.length) (hi : i ≤ (U.blk bl b).code.length) (hm : met.length = bl.length) (hu : U.unm met ≤ k) :
    Wf Tryd.prog H 77 [.agg [.sl ks, .sl bs, goI p, goI q, .sl (bl.map encB)], goI b, goI i, goI v, .os 0 0 bl.length] [.arr 1 (met.map encBo)] =
      some (goB (U.outS (U.scanI v ((U.blk bl b).code.drop i)) met (U.goN R (U.nextAt bl b) met)).1, [.arr 1 ((U.outS (U.scanI v ((U.blk bl b).code.drop i)) met (U.goN R (U.nextAt bl b) met)).2.map encBo)], []) := by
  have h3 := loope77_3 ks bs p q bl b v met (U.blk bl b).code (hc _ (blk_mem hb)) (hx _ (blk_mem hb)) ((U.blk bl b).code.length - i) i (by omega)
  have h12 := loope77_12 ks bs p q bl v k R hR hfar (U.nextAt bl b) (nextAt_len bl b) (hnx b hb) (U.nextAt bl b).length 0 met (by omega) hm hu
  have h27 := wf16 ks bs p q bl b hc
  rw [List.drop_zero] at h12
  rw [← hm] at h12 ⊢
  generalize U.goN R (U.nextAt bl b) met = e at h12
  obtain ⟨rs, m⟩ := e
  have hrow : 0 ≤ (b : Int) ∧ some (encB (U.blk bl b)) = some [AV.sl (rdL (encB (U.blk bl b)) 0)] := ⟨by omega, rfl⟩
  have ecode : rdL (encB (U.blk bl b)) 0 = (U.blk bl b).code.map encIn := rfl
  cases hs : U.scanI v ((U.blk bl b).code.drop i) with
  | some r =>
    rw [hs] at h3
    cases r with
    | true =>
      refine runK (te77 ks bs p q bl b i v met [] true false false _) ?_
      rw [Int.toNat_natCast, rowB hb, getB hb, ecode]
      exact ⟨⟨by omega, rfl⟩, h3, rfl⟩
    | false =>
      refine runK (te77 ks bs p q bl b i v met [] false true false _) ?_
      rw [Int.toNat_natCast, rowB hb, getB hb, ecode]
      exact ⟨⟨by omega, rfl⟩, h3, rfl⟩
  | none =>
    rw [hs] at h3
    refine runK (te77 ks bs p q bl b i v met m false false rs _) ?_
    rw [Int.toNat_natCast, rowB hb, getB hb, ecode, nextR_map]
    refine ⟨⟨by omega, rfl⟩, h3, h27, ?_⟩
    cases rs with
    | true => exact ⟨h12, rfl⟩
    | false => exact ⟨h12, rfl⟩
end
include hc hx in
theorem we77 (v : Int) (hnx : ∀ b : Nat, b < bl.length → ∀ x ∈ U.nextAt bl b, 0 ≤ x ∧ x < bl.length) : ∀ (k b i : Nat) (met : List Bool), b < bl.length → i ≤ (U.blk bl b).code.length → met.length = bl.length → U.unm met ≤ k →
    Wf Tryd.prog H 77 [.agg [.sl ks, .sl bs, goI p, goI q, .sl (bl.map encB)], goI b, goI i, goI v, .os 0 0 bl.length] [.arr 1 (met.map encBo)] =
      some (goB (U.fromS bl v k b i met).1, [.arr 1 ((U.fromS bl v k b i met).2.map encBo)], [])
  | 0, b, i, met, hb, hi, hm, hu => by
    have h := we77_gen ks bs p q bl hc hx v 0 (fun _ m => (false, m)) (fun t m q => by omega) (fun t m => FarM.refl m) hnx b i met hb hi hm hu
    unfold U.fromS
    rw [Int.toNat_natCast]
    exact h
  | k + 1, b, i, met, hb, hi, hm, hu => by
    have h := we77_gen ks bs p q bl hc hx v (k + 1) (fun t m => U.fromS bl v k t 0 m) (fun t m q1 t0 t1 hm' => by
      have := we77 v hnx k t.toNat 0 m (by omega) (Nat.zero_le _) hm' (by omega)
      rw [show ((t.toNat : Nat) : Int) = t by omega] at this
      exact this) (fun t m => fromS_far bl v k t 0 m) hnx b i met hb hi hm hu
    unfold U.fromS
    rw [Int.toNat_natCast]
    exact h
end
namespace U
def atFrom (bl : List XB) (b i : Nat) : Nat → Nat → List Int → List Int
  | 0, _, s => s
  | d + 1, v, s => atFrom bl b i d (v + 1) (if (fromS bl v bl.length b i (List.replicate bl.length false)).1 then withL s [(v : Int)] else s)
def atL (bl : List XB) (K b i : Nat) : List Int := Bit.neatL (atFrom bl b i K 0 [])
end U
theorem atFrom_ok {bl : List XB} (hu : UsesOk bl) {b i : Nat} (hb : b < bl.length) (hi : i ≤ (U.blk bl b).code.length) : ∀ (d v : Nat) (s : List Int), v + d ≤ 48 → Bit.Wd s → s.length ≤ 1000 →
    Bit.Wd (U.atFrom bl b i d v s) ∧ (U.atFrom bl b i d v s).length ≤ 1000 ∧ ∀ m, Bit.tb (U.atFrom bl b i d v s) m = true ↔ Bit.tb s m = true ∨ (v ≤ m ∧ m < v + d ∧ LiveAt bl b i m)
  | 0, v, s, hv, hw, hl => ⟨hw, hl, fun m => ⟨.inl, fun h => by
      rcases h with h | ⟨h1, h2, _⟩
      · exact h
      · omega⟩⟩
  | d + 1, v, s, hv, hw, hl => by
    have hlive := from_live (v := v) hu hb hi (Nat.le_refl bl.length)
    unfold U.atFrom
    cases hc : (U.fromS bl v bl.length b i (List.replicate bl.length false)).1 with
    | true =>
      rw [hc] at hlive
      have hL := hlive.1 rfl
      obtain ⟨g1, g2, g3⟩ := atFrom_ok hu hb hi d (v + 1) (U.withL s [(v : Int)]) (by omega) (withL_Wd hw) (withL_len _ _ hl)
      rw [if_pos rfl]
      refine ⟨g1, g2, fun m => ?_⟩
      rw [g3 m, tb_withL, Bool.or_eq_true, Bool.and_eq_true, decide_eq_true_eq, decide_eq_true_eq, List.mem_singleton]
      constructor
      · rintro ((h | ⟨h, _⟩) | ⟨h1, h2, h3⟩)
        · exact .inl h
        · have : m = v := by omega
          subst this; exact .inr ⟨by omega, by omega, hL⟩
        · exact .inr ⟨by omega, by omega, h3⟩
      · rintro (h | ⟨h1, h2, h3⟩)
        · exact .inl (.inl h)
        · by_cases e : m = v
          · subst e; exact .inl (.inr ⟨rfl, by omega⟩)
          · exact .inr ⟨by omega, by omega, h3⟩
    | false =>
      rw [hc] at hlive
      obtain ⟨g1, g2, g3⟩ := atFrom_ok hu hb hi d (v + 1) s (by omega) hw hl
      rw [if_neg (by simp)]
      refine ⟨g1, g2, fun m => ?_⟩
      rw [g3 m]
      constructor
      · rintro (h | ⟨h1, h2, h3⟩)
        · exact .inl h
        · exact .inr ⟨by omega, by omega, h3⟩
      · rintro (h | ⟨h1, h2, h3⟩)
        · exact .inl h
        · by_cases e : m = v
          · subst e; have := hlive.2 h3; cases this
          · exact .inr ⟨by omega, by omega, h3⟩
theorem atL_ok {bl : List XB} (hu : UsesOk bl) {b i K : Nat} (hK : K ≤ 48) (hb : b < bl.length) (hi : i ≤ (U.blk bl b).code.length) : Bit.Wd (U.atL bl K b i) ∧ Bit.neatL (U.atL bl K b i) = U.atL bl K b i ∧ ∀ m, Bit.tb (U.atL bl K b i) m = true ↔ (m < K ∧ LiveAt bl b i m) := by
  obtain ⟨g1, g2, g3⟩ := atFrom_ok hu hb hi K 0 [] (by omega) Bit.Wd.nil (by simp)
  unfold U.atL
  refine ⟨Bit.neatL_Wd g1, Bit.neatL_neatL _, fun m => ?_⟩
  rw [Bit.tb_neatL, g3 m, Bit.tb_nil]
  constructor
  · rintro (h | ⟨_, h1, h2⟩)
    · cases h
    · exact ⟨by omega, h2⟩
  · rintro ⟨h1, h2⟩
    exact .inr ⟨by omega, by omega, h2⟩
/-- What is live is a variable. -/
theorem live_small {bl : List XB} (hu : UsesOk bl) {K : Nat} (hv : ∀ b ∈ bl, ∀ x ∈ b.code, ∀ v ∈ U.uses x, 0 ≤ v ∧ v < K) : ∀ (b i v : Nat), LiveAt bl b i v → b < bl.length → v < K := by
  intro b i v h
  induction h with
  | use b i v h1 h2 =>
    intro hb
    have := hv _ (blk_mem hb) _ (ins_mem h1) _ h2
    omega
  | step b i v h1 h2 h3 ih => exact ih
  | next b i v t h1 h2 h3 ih =>
    intro hb
    have := hu.next b (by omega) (by omega) t h2
    exact ih (by omega)
/-- What is told by the queue is what is told by walking on. -/
theorem thr_at {bl : List XB} (hu : UsesOk bl) {inn out : List (List Int)} (hI : LInv bl inn out []) {K : Nat} (hK : K ≤ 48) (hv : ∀ b ∈ bl, ∀ x ∈ b.code, ∀ v ∈ U.uses x, 0 ≤ v ∧ v < K) {b i : Nat} (hb : b < bl.length) (hi : i ≤ (U.blk bl b).code.length) : U.atL bl K b i = U.thrL (U.blk bl b).code i (out.getD b []) := by
  obtain ⟨a1, a2, a3⟩ := atL_ok hu hK hb hi
  obtain ⟨o1, o2, o3⟩ := live_out hu hI hb
  have ht := tb_thr o1 (uses4096 hu hb) o3 ((U.blk bl b).code.length - i) i (by omega)
  refine Bit.neat_ext a1 (thr_Wd o1 _) a2 (thr_neat _ _ (fun _ => o2)) (fun m => ?_)
  rw [Bool.eq_iff_iff, a3 m]
  refine Iff.trans ?_ (ht m).symm
  exact ⟨fun h => h.2, fun h => ⟨live_small hu hv b i m h hb, h⟩⟩
section
variable (K : List Int) (bs : List (List AV)) (p q : Int) (bl : List XB) (hc : CodeOk bl) (hx : ∀ b ∈ bl, ∀ x ∈ b.code, InsIn x) (hu : UsesOk bl) (hK : K.length ≤ 48) (hl : bl.length ≤ 3000)
theorem we52 (ks : List (List AV)) (b i : Int) : Wf Tryd.prog H 52 [.agg [.sl ks, .sl bs, goI p, goI q, .sl (bl.map encB)], goI b, goI i] [] = some (goB (U.there bl b i), [], []) := by
  refine runK (te52 ks bs p q bl b i _) ?_
  unfold U.there
  rw [List.length_map]
  cases h1 : decide (b ≥ 0) with
  | false => exact rfl
  | true =>
    cases h2 : decide (b < (bl.length : Int)) with
    | false => exact rfl
    | true =>
      cases h3 : decide (i ≥ 0) with
      | false => exact rfl
      | true =>
        rw [decide_eq_true_eq] at h1 h2 h3
        have hb : b.toNat < bl.length := by omega
        rw [rowB hb, getB hb]
        simp only [encB, rdL, slOf, List.getD_cons_zero, List.length_map]
        exact ⟨⟨by omega, by trivial⟩, rfl⟩
include hc hx hu hK hl
theorem loope53 (b i : Nat) (hb : b < bl.length) (hi : i ≤ (U.blk bl b).code.length) : ∀ (d v : Nat) (s : List Int), v + d = K.length → Bit.Wd s → s.length ≤ 1000 →
    LoopTo Tryd.prog H (H 53) 0 (loopOf Tryd.prog 53 3) (mkS 31 [(1, goI b), (2, goI i), (3, .pt 0 0 0), (7, .sl (s.map encU)), (8, goI v)] [.box [.sl (K.map encI), .sl bs, goI p, goI q, .sl (bl.map encB)], .dead])
      (.exit 0, mkS 31 [(7, .sl ((U.atFrom bl b i d v s).map encU))] [.dead, .dead])
  | 0, v, s, hd, hw, hs => by
    refine turnK (te53_3 (K.map encI) bs p q bl b i s [] v false [] _) ?_
    rw [List.length_map, decide_eq_false (by omega)]
    exact rfl
  | d + 1, v, s, hd, hw, hs => by
    have h77 := we77 (K.map encI) bs p q bl hc hx v (fun b hb x hx => hu.next b (by omega) (by omega) x hx) bl.length b i (List.replicate bl.length false) hb hi (by simp) (by
      unfold U.unm; have := List.count_le_length (a := false) (l := List.replicate bl.length false); rw [List.length_replicate] at this; omega)
    unfold U.atFrom
    generalize U.fromS bl v bl.length b i (List.replicate bl.length false) = e at h77 ⊢
    obtain ⟨rs, m⟩ := e
    have ih := loope53 b i hb hi d (v + 1) (if rs = true then U.withL s [(v : Int)] else s) (by omega) (by split; exact withL_Wd hw; exact hw) (by split; exact withL_len _ _ hs; exact hs)
    have h31 := wr31 s [(v : Int)] hw hs (by simp)
    refine turnK (te53_3 (K.map encI) bs p q bl b i s (U.withL s [(v : Int)]) v rs m _) ?_
    rw [List.length_map, List.length_map, decide_eq_true (by omega), wrapS (show v < K.length by omega) (by omega), repBo, List.length_map, List.length_replicate]
    refine ⟨⟨by omega, by omega, by omega⟩, h77, ?_⟩
    cases rs with
    | true => exact ⟨h31, ih⟩
    | false => exact ih
theorem we53 (b i : Nat) (hb : b < bl.length) (hi : i ≤ (U.blk bl b).code.length) : Wf Tryd.prog H 53 [.agg [.sl (K.map encI), .sl bs, goI p, goI q, .sl (bl.map encB)], goI b, goI i] [] = some (.sl ((U.atL bl K.length b i).map encU), [], []) := by
  have h := loope53 K bs p q bl hc hx hu hK hl b i hb hi K.length 0 [] (by omega) Bit.Wd.nil (by simp)
  obtain ⟨g1, g2, g3⟩ := atFrom_ok hu hb hi K.length 0 [] (by omega) Bit.Wd.nil (by simp)
  have hn := wr58 (U.atFrom bl b i K.length 0 []) (by omega)
  refine runK (te53 (K.map encI) bs p q bl b i (U.atFrom bl b i K.length 0 []) _) ?_
  rw [neatR_map, take_all, List.length_map]
  exact ⟨h, hn, rfl⟩
variable {inn out : List (List Int)} (hI : LInv bl inn out []) (hv : ∀ b ∈ bl, ∀ x ∈ b.code, ∀ v ∈ U.uses x, 0 ≤ v ∧ v < K.length)
include hI hv
theorem we18 (b i : Int) : Wf Tryd.prog H 18 [.agg [.sl (K.map encI), .sl bs, goI p, goI q, .sl (bl.map encB)], goI b, goI i] [] = some (.sl ((U.aheadO bl out b i).map encU), [], []) := by
  refine runK (te18 (K.map encI) bs p q bl b i (U.there bl b i) (U.aheadO bl out b i) _) ⟨we52 bs p q bl (K.map encI) b i, ?_⟩
  unfold U.aheadO
  cases ht : U.there bl b i with
  | false => exact rfl
  | true =>
    obtain ⟨t1, t2, t3, t4⟩ := there_of ht
    obtain ⟨n, rfl⟩ := Int.eq_ofNat_of_zero_le t1
    obtain ⟨j, rfl⟩ := Int.eq_ofNat_of_zero_le t3
    rw [Int.toNat_natCast] at t4 ⊢
    rw [Int.toNat_natCast, if_pos rfl, ← thr_at hu hI hK hv (show n < bl.length by omega) (show j ≤ (U.blk bl n).code.length by omega)]
    exact ⟨we53 K bs p q bl hc hx hu hK hl n j (by omega) (by omega), rfl⟩
theorem we20 (b i : Int) : Wf Tryd.prog H 20 [.agg [.sl (K.map encI), .sl bs, goI p, goI q, .sl (bl.map encB)], goI b, goI i] [] = some (.sl ((U.behindO bl out b i).map encU), [], []) := by
  refine runK (te20 (K.map encI) bs p q bl b i (U.there bl b i) (U.behindO bl out b i) _) ⟨we52 bs p q bl (K.map encI) b i, ?_⟩
  unfold U.behindO
  cases ht : U.there bl b i with
  | false => exact rfl
  | true =>
    obtain ⟨t1, t2, t3, t4⟩ := there_of ht
    obtain ⟨n, rfl⟩ := Int.eq_ofNat_of_zero_le t1
    obtain ⟨j, rfl⟩ := Int.eq_ofNat_of_zero_le t3
    rw [Int.toNat_natCast] at t4 ⊢
    have hcl := hc _ (blk_mem (l := bl) (i := n) (by omega))
    rw [Int.toNat_natCast, if_pos rfl, ← thr_at hu hI hK hv (show n < bl.length by omega) (show j + 1 ≤ (U.blk bl n).code.length by omega), wrapS (show j < (U.blk bl n).code.length by omega) (by omega)]
    exact ⟨we53 K bs p q bl hc hx hu hK hl n (j + 1) (by omega) (by omega), rfl⟩
theorem we22 (b : Int) : Wf Tryd.prog H 22 [.agg [.sl (K.map encI), .sl bs, goI p, goI q, .sl (bl.map encB)], goI b] [] = some (.sl ((U.aheadO bl out b 0).map encU), [], []) :=
  runK (te22 (K.map encI) bs p q bl b (U.aheadO bl out b 0) _) ⟨we18 K bs p q bl hc hx hu hK hl hI hv b 0, rfl⟩
theorem we24 (b : Int) : Wf Tryd.prog H 24 [.agg [.sl (K.map encI), .sl bs, goI p, goI q, .sl (bl.map encB)], goI b] [] = some (.sl ((if 0 ≤ b then out.getD b.toNat [] else []).map encU), [], []) := by
  have hl2 := hI.len2
  refine runK (te24 (K.map encI) bs p q bl b (if 0 ≤ b then out.getD b.toNat [] else []) _) ?_
  rw [List.length_map]
  by_cases h0 : b < 0
  · rw [decide_eq_true h0, if_neg (by omega)]; exact rfl
  · rw [decide_eq_false h0, if_pos (by omega)]
    obtain ⟨n, rfl⟩ := Int.eq_ofNat_of_zero_le (show 0 ≤ b by omega)
    rw [Int.toNat_natCast]
    by_cases h1 : (n : Int) ≥ bl.length
    · have e : out.getD n [] = [] := by rw [List.getD_eq_getElem?_getD, List.getElem?_eq_none (by omega)]; rfl
      rw [decide_eq_true h1, e]; exact rfl
    · rw [decide_eq_false h1]
      have hb : n < bl.length := by omega
      have hne := hu.ne n hb
      have hcl := hc _ (blk_mem (l := bl) (i := n) hb)
      have h20 := we20 K bs p q bl hc hx hu hK hl hI hv n (((U.blk bl n).code.length - 1 : Nat) : Int)
      have e : U.behindO bl out n (((U.blk bl n).code.length - 1 : Nat) : Int) = out.getD n [] := by
        unfold U.behindO
        have ht : U.there bl (n : Int) (((U.blk bl n).code.length - 1 : Nat) : Int) = true := there_nat hb (by omega)
        rw [if_pos ht, Int.toNat_natCast, Int.toNat_natCast]
        unfold U.thrL
        rw [List.drop_of_length_le (by omega)]; rfl
      rw [e] at h20
      have ecode : rdL (encB (U.blk bl n)) 0 = (U.blk bl n).code.map encIn := rfl
      have ew : IntKind.i64.wrap (((U.blk bl n).code.length : Int) - 1) = (((U.blk bl n).code.length - 1 : Nat) : Int) := by rw [wrap64 (by omega) (by omega)]; omega
      rw [rowB hb, getB hb, ecode, List.length_map, ew]
      exact ⟨⟨by omega, rfl⟩, h20, rfl⟩
end
section
variable (ks bs : List (List AV)) (p q : Int) (bl : List XB) (hc : CodeOk bl) (hx : ∀ b ∈ bl, ∀ x ∈ b.code, InsIn x) {out inn : List (List Int)} (h47 : Wf Tryd.prog H 47 [.agg [.sl ks, .sl bs, goI p, goI q, .sl (bl.map encB)]] [] = some (.os 0 0 out.length, [.arr 1 (out.map encL)], [])) (hI : LInv bl inn out []) (hO : LenA out)
include hc hx h47 hI hO
theorem we25 (b i v : Int) (hv : v < 9223372036854775808) : Wf Tryd.prog H 25 [.agg [.sl ks, .sl bs, goI p, goI q, .sl (bl.map encB)], goI b, goI i, goI v] [] = some (goB (Bit.hasB (U.aheadO bl out b i) v), [], []) := by
  have h15 := wv15 ks bs p q bl hc hx h47 hI hO b i
  have hw : Bit.Wd (U.aheadO bl out b i) ∧ (U.aheadO bl out b i).length ≤ 1000 := by
    unfold U.aheadO
    split
    · exact ⟨thr_Wd (hI.wdo.at _) _, thr_len _ (hO.at _) _⟩
    · exact ⟨Bit.Wd.nil, by simp⟩
  have h42 := wb42 hw.1 v hv (by omega)
  refine runK (te25 ks bs p q bl b i v (U.aheadO bl out b i) _) ?_
  rw [hasW_map]
  exact ⟨h15, h42, rfl⟩
end
end Go.Proofs.YtdnekkkpngnmkaaDoor.E
