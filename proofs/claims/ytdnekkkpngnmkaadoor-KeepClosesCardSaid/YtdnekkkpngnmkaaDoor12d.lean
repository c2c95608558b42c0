/- Functions, by what the evaluator asks; the theorems t.. were printed by show.txt, a program of this session. -/
import Derived.Test.YtdnekkkpngnmkaaDoor12c
import Derived.Test.YtdnekkkpngnmkaaDoor05i
set_option linter.unusedVariables false
set_option linter.unusedSimpArgs false
set_option maxRecDepth 100000
namespace Go.Proofs.YtdnekkkpngnmkaaDoor.E
open Go
def FK10 (g : Bool) (n : Int) : CallT := fun f args sto => match f, args with
 | 43, _ => .is (goB g, [], [])
 | 44, _ => .is (goI n, [], [])
 | _, _ => .no
def F7 (o : Bool) (c r d : List Int) : CallT := fun f args sto => match f with
 | 32 => .is (goB true, [], [])
 | 33 => .is (goB o, [], [])
 | 34 => .is (.sl (c.map encU), [], [])
 | 35 => .is (.sl (c.map encU), [], [])
 | 19 => .is (goB true, [], [])
 | 37 => .is (.sl (r.map encI), [], [])
 | 38 => .is (.sl (r.map encI), [], [])
 | 39 => .is (.sl (d.map encI), [], [])
 | 40 => .is (.sl (d.map encI), [], [])
 | 36 => .is (goB true, [], [])
 | _ => .no
def L7 : Nat → St → LT := fun id st => .is (.exit 0) (mkS 66 [] [.dead, .dead])
set_option maxHeartbeats 4000000
def F8 (o : Bool) (c rr d nl : List Int) : CallT := fun f args sto => match f, args with
 | 32, _ => .is (goB true, [], [])
 | 33, _ => .is (goB o, [], [])
 | 34, _ => .is (.sl (c.map encU), [], [])
 | 26, [.sl l, .v (.int _ n)] => .is (goB (U.hasW l n), [], [])
 | 37, _ => .is (.sl (rr.map encI), [], [])
 | 39, _ => .is (.sl (d.map encI), [], [])
 | 41, _ => .is (.os 0 0 nl.length, [.arr 1 (nl.map encI)], [])
 | _, _ => .no
def L8 (s c : List Int) (n v : Nat) (w : Bool) : Nat → St → LT := fun id st => match id with
 | 6 => .is (.exit 0) (mkS 93 [] [.dead, .dead])
 | 11 => .is (.exit 2) (mkS 93 [(1, .sl (s.map encU)), (2, .pt 0 0 0), (5, goI n), (6, .pt 1 0 0), (7, .sl (c.map encU))] st.2)
 | 15 => .is (.exit 4) (mkS 93 [(1, .sl (s.map encU)), (2, .pt 0 0 0), (5, goI n), (6, .pt 1 0 0), (7, .sl (c.map encU)), (8, goI v), (9, goB w)] st.2)
 | _ => .no

theorem tk10 (a : List XF) (k : Int) (g : Bool) (n : Int) (r : AV × List Row × List Nat) : (runT Tryd.prog H (FK10 g n) (fun id st => LT.is (Ex.exit 0) (mkS 44 [(1, AV.pt 0 0 0), (3, goI k)] (St.sto st))) false
 33 [AV.agg [AV.sl (List.map encF a)]] [] fun q => q = r) = (LoopTo Tryd.prog H (H 33) 0 (loopOf Tryd.prog 33 3)
 (mkS 44 [(1, AV.pt 0 0 0), (3, goI 0), (4, goI 0)] [Row.box [AV.sl (List.map encF a)]])
 (Ex.exit 0, mkS 44 [(1, AV.pt 0 0 0), (3, goI k)] [Row.box [AV.sl (List.map encF a)]]) ∧
 TB (decide (k > 14)) ((goB true, [], []) = r)
 (Wf Tryd.prog H 43 [AV.agg [AV.sl (List.map encF a)]] [] = some (goB g, [], []) ∧
 TB g ((goB true, [], []) = r)
 (Wf Tryd.prog H 44 [AV.agg [AV.sl (List.map encF a)]] [] = some (goI n, [], []) ∧ (goB !n == 0, [], []) = r))) := by kernel_rfl
theorem tk10_3 (a : List XF) (n : Int) (i : Nat) (r : Ex × St) : (turnT Tryd.prog H (fun f args sto => CT.of (F0 f args sto)) L0 false (H 33) 0 (loopOf Tryd.prog 33 3)
 (mkS 44 [(1, AV.pt 0 0 0), (3, goI n), (4, goI (↑i : Int))] [Row.box [AV.sl (List.map encF a)]]) r) = (TB (decide ((↑i : Int) < (↑(List.length (List.map encF a)) : Int)))
 (TB (decide ((↑i : Int) < 9))
 ((0 ≤ (↑i : Int) ∧
 (List.map encF a)[i]? =
 some
 [AV.sl (rdL (rowAt (List.map encF a) i) 0), AV.sl (rdL (rowAt (List.map encF a) i) 1),
 goI (rdI (rowAt (List.map encF a) i) 2), goI (rdI (rowAt (List.map encF a) i) 3),
 AV.sl (rdL (rowAt (List.map encF a) i) 4)]) ∧
 (0 ≤ (↑i : Int) ∧
 (List.map encF a)[i]? =
 some
 [AV.sl (rdL (rowAt (List.map encF a) i) 0), AV.sl (rdL (rowAt (List.map encF a) i) 1),
 goI (rdI (rowAt (List.map encF a) i) 2), goI (rdI (rowAt (List.map encF a) i) 3),
 AV.sl (rdL (rowAt (List.map encF a) i) 4)]) ∧
 iz 2 ≠ 0 ∧
 LoopTo Tryd.prog H (H 33) 0 (loopOf Tryd.prog 33 3)
 (mkS 44
 [(1, AV.pt 0 0 0),
 (3,
 goI
 (if true = true then
 if
 (if true = true then
 if n < (↑(List.length (rdL (rowAt (List.map encF a) i) 4)) : Int) then
 (↑(List.length (rdL (rowAt (List.map encF a) i) 4)) : Int)
 else n
 else
 if (↑(List.length (rdL (rowAt (List.map encF a) i) 4)) : Int) < n then
 (↑(List.length (rdL (rowAt (List.map encF a) i) 4)) : Int)
 else n) <
 IntKind.wrap IntKind.i64
 (Int.tdiv (↑(List.length (rdL (rowAt (List.map encF a) i) 0)) : Int) 2) then
 IntKind.wrap IntKind.i64 (Int.tdiv (↑(List.length (rdL (rowAt (List.map encF a) i) 0)) : Int) 2)
 else
 if true = true then
 if n < (↑(List.length (rdL (rowAt (List.map encF a) i) 4)) : Int) then
 (↑(List.length (rdL (rowAt (List.map encF a) i) 4)) : Int)
 else n
 else
 if (↑(List.length (rdL (rowAt (List.map encF a) i) 4)) : Int) < n then
 (↑(List.length (rdL (rowAt (List.map encF a) i) 4)) : Int)
 else n
 else
 if
 IntKind.wrap IntKind.i64
 (Int.tdiv (↑(List.length (rdL (rowAt (List.map encF a) i) 0)) : Int) 2) <
 if true = true then
 if n < (↑(List.length (rdL (rowAt (List.map encF a) i) 4)) : Int) then
 (↑(List.length (rdL (rowAt (List.map encF a) i) 4)) : Int)
 else n
 else
 if (↑(List.length (rdL (rowAt (List.map encF a) i) 4)) : Int) < n then
 (↑(List.length (rdL (rowAt (List.map encF a) i) 4)) : Int)
 else n then
 IntKind.wrap IntKind.i64 (Int.tdiv (↑(List.length (rdL (rowAt (List.map encF a) i) 0)) : Int) 2)
 else
 if true = true then
 if n < (↑(List.length (rdL (rowAt (List.map encF a) i) 4)) : Int) then
 (↑(List.length (rdL (rowAt (List.map encF a) i) 4)) : Int)
 else n
 else
 if (↑(List.length (rdL (rowAt (List.map encF a) i) 4)) : Int) < n then
 (↑(List.length (rdL (rowAt (List.map encF a) i) 4)) : Int)
 else n)),
 (4, goI (IntKind.wrap IntKind.i64 ((↑i : Int) + 1)))]
 [Row.box [AV.sl (List.map encF a)]])
 r)
 ((Ex.exit 0, mkS 44 [(1, AV.pt 0 0 0), (3, goI n)] [Row.box [AV.sl (List.map encF a)]]) = r))
 ((Ex.exit 0, mkS 44 [(1, AV.pt 0 0 0), (3, goI n)] [Row.box [AV.sl (List.map encF a)]]) = r)) := by kernel_rfl
theorem t7 (a : List XF) (s : List Int) (o : Bool) (r : AV × List Row × List Nat) : (runT Tryd.prog H (F7 o [] [] []) L7 false 7 [AV.agg [AV.sl (List.map encF a)], AV.sl (List.map encU s)] [] fun q =>
 q = r) = (Wf Tryd.prog H 32 [] [] = some (goB true, [], []) ∧
 Wf Tryd.prog H 33 [AV.agg [AV.sl (List.map encF a)]] [] = some (goB o, [], []) ∧
 TB o ((goB true, [], []) = r)
 (TB (decide ((↑(List.length (List.map encU s)) : Int) > 70)) ((goB true, [], []) = r)
 (LoopTo Tryd.prog H (H 7) 0 (loopOf Tryd.prog 7 6)
 (mkS 66 [(1, AV.sl (List.map encU s)), (2, AV.pt 0 0 0), (5, goI 0)]
 [Row.box [AV.sl (List.map encF a)], Row.dead])
 (Ex.exit 0, mkS 66 [] [Row.dead, Row.dead]) ∧
 (goB true, [], []) = r))) := by kernel_rfl
theorem t7_6 (a : List XF) (s : List Int) (n : Nat) (c : List Int) (rr : List Int) (d : List Int) (r : Ex × St) : (turnT Tryd.prog H (F7 false c rr d) L0 false (H 7) 0 (loopOf Tryd.prog 7 6)
 (mkS 66 [(1, AV.sl (List.map encU s)), (2, AV.pt 0 0 0), (5, goI (↑n : Int))]
 [Row.box [AV.sl (List.map encF a)], Row.dead])
 r) = (TB (decide ((↑n : Int) < (↑(List.length (List.map encF a)) : Int)))
 ((0 ≤ (↑n : Int) ∧
 (List.map encF a)[n]? =
 some
 [AV.sl (rdL (rowAt (List.map encF a) n) 0), AV.sl (rdL (rowAt (List.map encF a) n) 1),
 goI (rdI (rowAt (List.map encF a) n) 2), goI (rdI (rowAt (List.map encF a) n) 3),
 AV.sl (rdL (rowAt (List.map encF a) n) 4)]) ∧
 Wf Tryd.prog H 34
 [AV.agg
 [AV.sl (rdL (rowAt (List.map encF a) n) 0), AV.sl (rdL (rowAt (List.map encF a) n) 1),
 goI (rdI (rowAt (List.map encF a) n) 2), goI (rdI (rowAt (List.map encF a) n) 3),
 AV.sl (rdL (rowAt (List.map encF a) n) 4)],
 AV.sl (List.map encU s)]
 [] =
 some (AV.sl (List.map encU c), [], []) ∧
 Wf Tryd.prog H 35
 [AV.agg
 [AV.sl (rdL (rowAt (List.map encF a) n) 0), AV.sl (rdL (rowAt (List.map encF a) n) 1),
 goI (rdI (rowAt (List.map encF a) n) 2), goI (rdI (rowAt (List.map encF a) n) 3),
 AV.sl (rdL (rowAt (List.map encF a) n) 4)],
 AV.sl (List.map encU s)]
 [] =
 some (AV.sl (List.map encU c), [], []) ∧
 Wf Tryd.prog H 19 [AV.sl (List.map encU c), AV.sl (List.map encU c)] [] = some (goB true, [], []) ∧
 Wf Tryd.prog H 34
 [AV.agg
 [AV.sl (rdL (rowAt (List.map encF a) n) 0), AV.sl (rdL (rowAt (List.map encF a) n) 1),
 goI (rdI (rowAt (List.map encF a) n) 2), goI (rdI (rowAt (List.map encF a) n) 3),
 AV.sl (rdL (rowAt (List.map encF a) n) 4)],
 AV.sl (List.map encU c)]
 [] =
 some (AV.sl (List.map encU c), [], []) ∧
 Wf Tryd.prog H 19 [AV.sl (List.map encU c), AV.sl (List.map encU c)] [] = some (goB true, [], []) ∧
 Wf Tryd.prog H 37
 [AV.agg
 [AV.sl (rdL (rowAt (List.map encF a) n) 0), AV.sl (rdL (rowAt (List.map encF a) n) 1),
 goI (rdI (rowAt (List.map encF a) n) 2), goI (rdI (rowAt (List.map encF a) n) 3),
 AV.sl (rdL (rowAt (List.map encF a) n) 4)],
 AV.sl (List.map encU s)]
 [] =
 some (AV.sl (List.map encI rr), [], []) ∧
 Wf Tryd.prog H 38
 [AV.agg
 [AV.sl (rdL (rowAt (List.map encF a) n) 0), AV.sl (rdL (rowAt (List.map encF a) n) 1),
 goI (rdI (rowAt (List.map encF a) n) 2), goI (rdI (rowAt (List.map encF a) n) 3),
 AV.sl (rdL (rowAt (List.map encF a) n) 4)],
 AV.sl (List.map encU s)]
 [] =
 some (AV.sl (List.map encI rr), [], []) ∧
 Wf Tryd.prog H 36 [AV.sl (List.map encI rr), AV.sl (List.map encI rr)] [] = some (goB true, [], []) ∧
 Wf Tryd.prog H 39
 [AV.agg
 [AV.sl (rdL (rowAt (List.map encF a) n) 0), AV.sl (rdL (rowAt (List.map encF a) n) 1),
 goI (rdI (rowAt (List.map encF a) n) 2), goI (rdI (rowAt (List.map encF a) n) 3),
 AV.sl (rdL (rowAt (List.map encF a) n) 4)],
 AV.sl (List.map encU s)]
 [] =
 some (AV.sl (List.map encI d), [], []) ∧
 Wf Tryd.prog H 40
 [AV.agg
 [AV.sl (rdL (rowAt (List.map encF a) n) 0), AV.sl (rdL (rowAt (List.map encF a) n) 1),
 goI (rdI (rowAt (List.map encF a) n) 2), goI (rdI (rowAt (List.map encF a) n) 3),
 AV.sl (rdL (rowAt (List.map encF a) n) 4)],
 AV.sl (List.map encU s)]
 [] =
 some (AV.sl (List.map encI d), [], []) ∧
 Wf Tryd.prog H 36 [AV.sl (List.map encI d), AV.sl (List.map encI d)] [] =
 some (goB true, [], []) ∧
 LoopTo Tryd.prog H (H 7) 0 (loopOf Tryd.prog 7 6)
 (mkS 66
 [(1, AV.sl (List.map encU s)), (2, AV.pt 0 0 0),
 (5, goI (IntKind.wrap IntKind.i64 ((↑n : Int) + 1)))]
 [Row.box [AV.sl (List.map encF a)], Row.dead])
 r)
 ((Ex.exit 0, mkS 66 [] [Row.dead, Row.dead]) = r)) := by kernel_rfl
theorem t8 (a : List XF) (s : List Int) (o : Bool) (r : AV × List Row × List Nat) : (runT Tryd.prog H (F8 o [] [] [] []) (L8 s [] 0 0 false) false 8
 [AV.agg [AV.sl (List.map encF a)], AV.sl (List.map encU s)] [] fun q => q = r) = (Wf Tryd.prog H 32 [] [] = some (goB true, [], []) ∧
 Wf Tryd.prog H 33 [AV.agg [AV.sl (List.map encF a)]] [] = some (goB o, [], []) ∧
 TB o ((goB true, [], []) = r)
 (TB (decide ((↑(List.length (List.map encU s)) : Int) > 70)) ((goB true, [], []) = r)
 (LoopTo Tryd.prog H (H 8) 0 (loopOf Tryd.prog 8 6)
 (mkS 93 [(1, AV.sl (List.map encU s)), (2, AV.pt 0 0 0), (5, goI 0)]
 [Row.box [AV.sl (List.map encF a)], Row.dead])
 (Ex.exit 0, mkS 93 [] [Row.dead, Row.dead]) ∧
 (goB true, [], []) = r))) := by kernel_rfl
theorem t8_6 (a : List XF) (s : List Int) (n : Nat) (c : List Int) (rr : List Int) (d : List Int) (nl : List Int) (r : Ex × St) : (turnT Tryd.prog H (F8 false c rr d nl) (L8 s c n 0 false) false (H 8) 0 (loopOf Tryd.prog 8 6)
 (mkS 93 [(1, AV.sl (List.map encU s)), (2, AV.pt 0 0 0), (5, goI (↑n : Int))]
 [Row.box [AV.sl (List.map encF a)], Row.dead])
 r) = (TB (decide ((↑n : Int) < (↑(List.length (List.map encF a)) : Int)))
 ((0 ≤ (↑n : Int) ∧
 (List.map encF a)[n]? =
 some
 [AV.sl (rdL (rowAt (List.map encF a) n) 0), AV.sl (rdL (rowAt (List.map encF a) n) 1),
 goI (rdI (rowAt (List.map encF a) n) 2), goI (rdI (rowAt (List.map encF a) n) 3),
 AV.sl (rdL (rowAt (List.map encF a) n) 4)]) ∧
 Wf Tryd.prog H 34
 [AV.agg
 [AV.sl (rdL (rowAt (List.map encF a) n) 0), AV.sl (rdL (rowAt (List.map encF a) n) 1),
 goI (rdI (rowAt (List.map encF a) n) 2), goI (rdI (rowAt (List.map encF a) n) 3),
 AV.sl (rdL (rowAt (List.map encF a) n) 4)],
 AV.sl (List.map encU s)]
 [] =
 some (AV.sl (List.map encU c), [], []) ∧
 LoopTo Tryd.prog H (H 8) 0 (loopOf Tryd.prog 8 11)
 (mkS 93
 [(1, AV.sl (List.map encU s)), (2, AV.pt 0 0 0), (5, goI (↑n : Int)), (6, AV.pt 1 0 0),
 (7, AV.sl (List.map encU c)), (8, goI 0)]
 [Row.box [AV.sl (List.map encF a)],
 Row.box
 [AV.sl (rdL (rowAt (List.map encF a) n) 0), AV.sl (rdL (rowAt (List.map encF a) n) 1),
 goI (rdI (rowAt (List.map encF a) n) 2), goI (rdI (rowAt (List.map encF a) n) 3),
 AV.sl (rdL (rowAt (List.map encF a) n) 4)]])
 (Ex.exit 2,
 mkS 93
 [(1, AV.sl (List.map encU s)), (2, AV.pt 0 0 0), (5, goI (↑n : Int)), (6, AV.pt 1 0 0),
 (7, AV.sl (List.map encU c))]
 [Row.box [AV.sl (List.map encF a)],
 Row.box
 [AV.sl (rdL (rowAt (List.map encF a) n) 0), AV.sl (rdL (rowAt (List.map encF a) n) 1),
 goI (rdI (rowAt (List.map encF a) n) 2), goI (rdI (rowAt (List.map encF a) n) 3),
 AV.sl (rdL (rowAt (List.map encF a) n) 4)]]) ∧
 Wf Tryd.prog H 37
 [AV.agg
 [AV.sl (rdL (rowAt (List.map encF a) n) 0), AV.sl (rdL (rowAt (List.map encF a) n) 1),
 goI (rdI (rowAt (List.map encF a) n) 2), goI (rdI (rowAt (List.map encF a) n) 3),
 AV.sl (rdL (rowAt (List.map encF a) n) 4)],
 AV.sl (List.map encU c)]
 [] =
 some (AV.sl (List.map encI rr), [], []) ∧
 Wf Tryd.prog H 39
 [AV.agg
 [AV.sl (rdL (rowAt (List.map encF a) n) 0), AV.sl (rdL (rowAt (List.map encF a) n) 1),
 goI (rdI (rowAt (List.map encF a) n) 2), goI (rdI (rowAt (List.map encF a) n) 3),
 AV.sl (rdL (rowAt (List.map encF a) n) 4)],
 AV.sl (List.map encU c)]
 [] =
 some (AV.sl (List.map encI d), [], []) ∧
 Wf Tryd.prog H 41 [AV.sl (List.map encU c)] [] =
 some (AV.os 0 0 (List.length nl), [Row.arr 1 (List.map encI nl)], []) ∧
 TB
 (decide
 (IntKind.wrap IntKind.i64
 ((↑(List.length (List.map encI rr)) : Int) + (↑(List.length (List.map encI d)) : Int)) >
 (↑(List.length (List.take (List.length nl) (List.drop 0 (List.map encI nl)))) : Int)))
 ((Ex.ret, mkS 93 [(4, goB false)] [Row.dead, Row.dead]) = r)
 (LoopTo Tryd.prog H (H 8) 0 (loopOf Tryd.prog 8 6)
 (mkS 93
 [(1, AV.sl (List.map encU s)), (2, AV.pt 0 0 0),
 (5, goI (IntKind.wrap IntKind.i64 ((↑n : Int) + 1)))]
 [Row.box [AV.sl (List.map encF a)], Row.dead])
 r))
 ((Ex.exit 0, mkS 93 [] [Row.dead, Row.dead]) = r)) := by kernel_rfl
theorem t8_11 (X : List (List AV)) (K : List Int) (Bs : List Int) (p : Int) (q : Int) (bl : List (List AV)) (s : List Int) (c : List Int) (n : Nat) (v : Nat) (w : Bool) (r : Ex × St) : (turnT Tryd.prog H (F8 false [] [] [] []) (L8 s c n v w) false (H 8) 0 (loopOf Tryd.prog 8 11)
 (mkS 93
 [(1, AV.sl (List.map encU s)), (2, AV.pt 0 0 0), (5, goI (↑n : Int)), (6, AV.pt 1 0 0),
 (7, AV.sl (List.map encU c)), (8, goI (↑v : Int))]
 [Row.box [AV.sl X], Row.box [AV.sl (List.map encI K), AV.sl (List.map encI Bs), goI p, goI q, AV.sl bl]])
 r) = (TB (decide ((↑v : Int) < (↑(List.length (List.map encI K)) : Int)))
 (Wf Tryd.prog H 26 [AV.sl (List.map encU s), goI (↑v : Int)] [] =
 some (goB (U.hasW (List.map encU s) (↑v : Int)), [], []) ∧
 LoopTo Tryd.prog H (H 8) 0 (loopOf Tryd.prog 8 15)
 (mkS 93
 [(1, AV.sl (List.map encU s)), (2, AV.pt 0 0 0), (5, goI (↑n : Int)), (6, AV.pt 1 0 0),
 (7, AV.sl (List.map encU c)), (8, goI (↑v : Int)), (9, goB (U.hasW (List.map encU s) (↑v : Int))),
 (10, goI 0)]
 [Row.box [AV.sl X], Row.box [AV.sl (List.map encI K), AV.sl (List.map encI Bs), goI p, goI q, AV.sl bl]])
 (Ex.exit 4,
 mkS 93
 [(1, AV.sl (List.map encU s)), (2, AV.pt 0 0 0), (5, goI (↑n : Int)), (6, AV.pt 1 0 0),
 (7, AV.sl (List.map encU c)), (8, goI (↑v : Int)), (9, goB w)]
 [Row.box [AV.sl X], Row.box [AV.sl (List.map encI K), AV.sl (List.map encI Bs), goI p, goI q, AV.sl bl]]) ∧
 Wf Tryd.prog H 26 [AV.sl (List.map encU c), goI (↑v : Int)] [] =
 some (goB (U.hasW (List.map encU c) (↑v : Int)), [], []) ∧
 TB (!U.hasW (List.map encU c) (↑v : Int) == w) ((Ex.ret, mkS 93 [(4, goB false)] [Row.dead, Row.dead]) = r)
 (LoopTo Tryd.prog H (H 8) 0 (loopOf Tryd.prog 8 11)
 (mkS 93
 [(1, AV.sl (List.map encU s)), (2, AV.pt 0 0 0), (5, goI (↑n : Int)), (6, AV.pt 1 0 0),
 (7, AV.sl (List.map encU c)), (8, goI (IntKind.wrap IntKind.i64 ((↑v : Int) + 1)))]
 [Row.box [AV.sl X], Row.box [AV.sl (List.map encI K), AV.sl (List.map encI Bs), goI p, goI q, AV.sl bl]])
 r))
 ((Ex.exit 2,
 mkS 93
 [(1, AV.sl (List.map encU s)), (2, AV.pt 0 0 0), (5, goI (↑n : Int)), (6, AV.pt 1 0 0),
 (7, AV.sl (List.map encU c))]
 [Row.box [AV.sl X], Row.box [AV.sl (List.map encI K), AV.sl (List.map encI Bs), goI p, goI q, AV.sl bl]]) =
 r)) := by kernel_rfl
theorem t8_15 (X : List (List AV)) (K : List Int) (Bs : List Int) (p : Int) (q : Int) (bl : List (List AV)) (s : List Int) (c : List Int) (n : Nat) (v : Nat) (w : Bool) (u : Nat) (r : Ex × St) : (turnT Tryd.prog H (F8 false [] [] [] []) L0 false (H 8) 0 (loopOf Tryd.prog 8 15)
 (mkS 93
 [(1, AV.sl (List.map encU s)), (2, AV.pt 0 0 0), (5, goI (↑n : Int)), (6, AV.pt 1 0 0),
 (7, AV.sl (List.map encU c)), (8, goI (↑v : Int)), (9, goB w), (10, goI (↑u : Int))]
 [Row.box [AV.sl X], Row.box [AV.sl (List.map encI K), AV.sl (List.map encI Bs), goI p, goI q, AV.sl bl]])
 r) = (TB (decide ((↑u : Int) < (↑(List.length (List.map encI K)) : Int)))
 (TB w
 (LoopTo Tryd.prog H (H 8) 0 (loopOf Tryd.prog 8 15)
 (mkS 93
 [(1, AV.sl (List.map encU s)), (2, AV.pt 0 0 0), (5, goI (↑n : Int)), (6, AV.pt 1 0 0),
 (7, AV.sl (List.map encU c)), (8, goI (↑v : Int)), (9, goB true),
 (10, goI (IntKind.wrap IntKind.i64 ((↑u : Int) + 1)))]
 [Row.box [AV.sl X], Row.box [AV.sl (List.map encI K), AV.sl (List.map encI Bs), goI p, goI q, AV.sl bl]])
 r)
 ((0 ≤ (↑u : Int) ∧ (List.map encI K)[u]? = some [goI (rdI (rowAt (List.map encI K) u) 0)]) ∧
 TB (rdI (rowAt (List.map encI K) u) 0 == 2)
 ((0 ≤ (↑u : Int) ∧ (List.map encI Bs)[u]? = some [goI (rdI (rowAt (List.map encI Bs) u) 0)]) ∧
 TB (rdI (rowAt (List.map encI Bs) u) 0 == (↑v : Int))
 (Wf Tryd.prog H 26 [AV.sl (List.map encU s), goI (↑u : Int)] [] =
 some (goB (U.hasW (List.map encU s) (↑u : Int)), [], []) ∧
 LoopTo Tryd.prog H (H 8) 0 (loopOf Tryd.prog 8 15)
 (mkS 93
 [(1, AV.sl (List.map encU s)), (2, AV.pt 0 0 0), (5, goI (↑n : Int)), (6, AV.pt 1 0 0),
 (7, AV.sl (List.map encU c)), (8, goI (↑v : Int)), (9, goB (U.hasW (List.map encU s) (↑u : Int))),
 (10, goI (IntKind.wrap IntKind.i64 ((↑u : Int) + 1)))]
 [Row.box [AV.sl X],
 Row.box [AV.sl (List.map encI K), AV.sl (List.map encI Bs), goI p, goI q, AV.sl bl]])
 r)
 (LoopTo Tryd.prog H (H 8) 0 (loopOf Tryd.prog 8 15)
 (mkS 93
 [(1, AV.sl (List.map encU s)), (2, AV.pt 0 0 0), (5, goI (↑n : Int)), (6, AV.pt 1 0 0),
 (7, AV.sl (List.map encU c)), (8, goI (↑v : Int)), (9, goB false),
 (10, goI (IntKind.wrap IntKind.i64 ((↑u : Int) + 1)))]
 [Row.box [AV.sl X],
 Row.box [AV.sl (List.map encI K), AV.sl (List.map encI Bs), goI p, goI q, AV.sl bl]])
 r))
 (LoopTo Tryd.prog H (H 8) 0 (loopOf Tryd.prog 8 15)
 (mkS 93
 [(1, AV.sl (List.map encU s)), (2, AV.pt 0 0 0), (5, goI (↑n : Int)), (6, AV.pt 1 0 0),
 (7, AV.sl (List.map encU c)), (8, goI (↑v : Int)), (9, goB false),
 (10, goI (IntKind.wrap IntKind.i64 ((↑u : Int) + 1)))]
 [Row.box [AV.sl X], Row.box [AV.sl (List.map encI K), AV.sl (List.map encI Bs), goI p, goI q, AV.sl bl]])
 r)))
 ((Ex.exit 4,
 mkS 93
 [(1, AV.sl (List.map encU s)), (2, AV.pt 0 0 0), (5, goI (↑n : Int)), (6, AV.pt 1 0 0),
 (7, AV.sl (List.map encU c)), (8, goI (↑v : Int)), (9, goB w)]
 [Row.box [AV.sl X], Row.box [AV.sl (List.map encI K), AV.sl (List.map encI Bs), goI p, goI q, AV.sl bl]]) =
 r)) := by kernel_rfl
theorem wk9 : Wf Tryd.prog H 32 [] [] = some (goB true, [], []) := Wf_at 100 (by kernel_rfl)
theorem varsk_of {P : List XF} (h : U.okProg P = true) {i : Nat} (hi : i < P.length) {b : XB} (hb : b ∈ (U.fun_ P i).blocks) {x : XI} (hx : x ∈ b.code) : (∀ v ∈ U.vars x, 0 ≤ v ∧ v < (U.fun_ P i).kinds.length) ∧ (∀ t ∈ U.next x, 1 ≤ t ∧ t < (U.fun_ P i).blocks.length) ∧ U.bare x = true := by
  have hx := okIns_at h hi hb hx
  unfold U.okIns at hx
  simp only [Bool.and_eq_true] at hx
  refine ⟨fun v hv => ?_, fun t ht => ?_, hx.1.1.1.2⟩
  · have := (inFrom_iff _ _ _).1 hx.1.1.2 v hv; omega
  · have := (inFrom_iff _ _ _).1 hx.1.2 t ht; omega
namespace U
def mxk2 (a b : Int) : Int := if a < b then b else a
def mxk (a : List XF) : Nat → Nat → Int → Int
  | 0, i, n => n
  | d + 1, i, n => mxk a d (i + 1) (mxk2 (mxk2 n ((fun_ a i).blocks.length : Int)) (IntKind.i64.wrap (Int.tdiv ((fun_ a i).kinds.length : Int) 2)))
def out12 (p : XP) : Bool := decide (mxk p.funcs (min p.funcs.length 9) 0 0 > 14) || (great p || !okProg p.funcs)
end U
theorem mxk2_ge (a b : Int) : a ≤ U.mxk2 a b ∧ b ≤ U.mxk2 a b := by unfold U.mxk2; split <;> omega
theorem mxk_ge (a : List XF) : ∀ (d i : Nat) (n : Int), n ≤ U.mxk a d i n
  | 0, i, n => Int.le_refl _
  | d + 1, i, n => by
    have := mxk_ge a d (i + 1) (U.mxk2 (U.mxk2 n ((U.fun_ a i).blocks.length : Int)) (IntKind.i64.wrap (Int.tdiv ((U.fun_ a i).kinds.length : Int) 2)))
    have h1 := mxk2_ge n ((U.fun_ a i).blocks.length : Int)
    have h2 := mxk2_ge (U.mxk2 n ((U.fun_ a i).blocks.length : Int)) (IntKind.i64.wrap (Int.tdiv ((U.fun_ a i).kinds.length : Int) 2))
    unfold U.mxk
    omega
theorem mxk_at (a : List XF) : ∀ (d i : Nat) (n : Int) (j : Nat), i ≤ j → j < i + d → ((U.fun_ a j).blocks.length : Int) ≤ U.mxk a d i n
  | 0, i, n, j, h1, h2 => by omega
  | d + 1, i, n, j, h1, h2 => by
    unfold U.mxk
    by_cases e : j = i
    · subst e
      have := mxk_ge a d (j + 1) (U.mxk2 (U.mxk2 n ((U.fun_ a j).blocks.length : Int)) (IntKind.i64.wrap (Int.tdiv ((U.fun_ a j).kinds.length : Int) 2)))
      have h1 := mxk2_ge n ((U.fun_ a j).blocks.length : Int)
      have h2 := mxk2_ge (U.mxk2 n ((U.fun_ a j).blocks.length : Int)) (IntKind.i64.wrap (Int.tdiv ((U.fun_ a j).kinds.length : Int) 2))
      omega
    · exact mxk_at a d (i + 1) _ j (by omega) (by omega)
theorem loopk10_3 (a : List XF) (ha : Long a.length) : ∀ (d i : Nat) (n : Int), i + d = min a.length 9 →
    LoopTo Tryd.prog H (H 33) 0 (loopOf Tryd.prog 33 3) (mkS 44 [(1, .pt 0 0 0), (3, goI n), (4, goI i)] [.box [.sl (a.map encF)]]) (.exit 0, mkS 44 [(1, .pt 0 0 0), (3, goI (U.mxk a d i n))] [.box [.sl (a.map encF)]])
  | 0, i, n, hd => by
    refine turnK (tk10_3 a n i _) ?_
    rw [List.length_map]
    by_cases h : (i : Int) < a.length
    · rw [decide_eq_true h, decide_eq_false (show ¬ (i : Int) < 9 by omega)]; exact rfl
    · rw [decide_eq_false h]; exact rfl
  | d + 1, i, n, hd => by
    have hi : i < a.length := by omega
    have ih := loopk10_3 a ha d (i + 1) (U.mxk2 (U.mxk2 n ((U.fun_ a i).blocks.length : Int)) (IntKind.i64.wrap (Int.tdiv ((U.fun_ a i).kinds.length : Int) 2))) (by omega)
    refine turnK (tk10_3 a n i _) ?_
    rw [List.length_map, decide_eq_true (show (i : Int) < a.length by omega), decide_eq_true (show (i : Int) < 9 by omega), wrapS (show i < 9 by omega) (by omega), rowF hi, getF hi]
    simp only [encF, rdI, rdL, slOf, List.getD_cons_zero, List.getD_cons_succ, int_goI, List.length_map, if_true]
    exact ⟨⟨by omega, by trivial⟩, ⟨by omega, by trivial⟩, by decide, ih⟩
theorem wk10 (p : XP) (hp : HandP p) : Wf Tryd.prog H 33 [.agg (encP p)] [] = some (goB (U.out12 p), [], []) := by
  refine runK (tk10 p.funcs (U.mxk p.funcs (min p.funcs.length 9) 0 0) (U.great p) (if U.okProg p.funcs then 0 else 5) _) ⟨loopk10_3 p.funcs hp.1 (min p.funcs.length 9) 0 0 (by omega), ?_⟩
  unfold U.out12
  cases decide (U.mxk p.funcs (min p.funcs.length 9) 0 0 > 14) with
  | true => exact rfl
  | false =>
    refine ⟨wf43 p hp, ?_⟩
    cases hg : U.great p with
    | true => exact rfl
    | false =>
      obtain ⟨h1, h2⟩ := small_of hg
      refine ⟨wf44 p.funcs h1 h2, ?_⟩
      cases U.okProg p.funcs with
      | true => exact rfl
      | false => exact rfl
/-- What is known of a program that is asked about. -/
structure AskedK (a : List XF) : Prop where
  len : a.length ≤ 3000
  small : ∀ f ∈ a, SmallF f
  ok : U.okProg a = true
theorem askedK_of {p : XP} (h : U.out12 p = false) : AskedK p.funcs := by
  unfold U.out12 at h
  rw [Bool.or_eq_false_iff, Bool.or_eq_false_iff] at h
  obtain ⟨h1, h2, h3⟩ := h
  obtain ⟨g1, g2⟩ := small_of h2
  exact ⟨g1, g2, by simpa using h3⟩
theorem kOk_of {f : XF} (h : FuncOk f) : KOk f.kinds f.base := by
  refine ⟨h.kinds, h.base, fun i hi h2 => ?_⟩
  have := h.kind i hi
  unfold U.kindOk at this
  rw [h2] at this
  simp only [Bool.and_eq_true, beq_self_eq_true, if_true, within_iff, beq_iff_eq] at this
  have h3 := this.2.2
  omega
theorem intsSame (l : List Int) (hl : l.length < 1000000) : Wf Tryd.prog H 36 [.sl (l.map encI), .sl (l.map encI)] [] = some (goB true, [], []) := by
  have h := wf14 l l hl
  have e : U.same l l = true := by
    unfold U.same
    rw [decide_eq_true rfl, Bool.true_and]
    exact allFrom_iff.2 (fun j _ _ => decide_eq_true rfl)
  rw [e] at h
  exact h
theorem loopt7 (a : List XF) (s : List Int) (hw : Bit.Wd s) (hs : s.length ≤ 1000) (hK : AskedK a) : ∀ (d n : Nat), n + d = a.length →
    LoopTo Tryd.prog H (H 7) 0 (loopOf Tryd.prog 7 6) (mkS 66 [(1, .sl (s.map encU)), (2, .pt 0 0 0), (5, goI n)] [.box [.sl (a.map encF)], .dead]) (.exit 0, mkS 66 [] [.dead, .dead])
  | 0, n, hd => by
    refine turnK (t7_6 a s n [] [] [] _) ?_
    rw [List.length_map, decide_eq_false (by omega)]
    exact rfl
  | d + 1, n, hd => by
    have hi : n < a.length := by omega
    have ih := loopt7 a s hw hs hK d (n + 1) (by omega)
    have hlen := hK.len
    have hF := funcOk_of (okFunc_at hK.ok (fun_mem hi))
    have O := kOk_of hF
    have hk := hF.kinds
    obtain ⟨c1, c2, c3, c4⟩ := closeL_ok O s
    have hrl := selP_len (fun v => (U.nt (U.fun_ a n).kinds v == 1) && Bit.tb s v) (U.fun_ a n).kinds.length 0
    have hdl := selP_len (fun v => (U.nt (U.fun_ a n).kinds v == 2) && Bit.tb s v) (U.fun_ a n).kinds.length 0
    have k1 := wClose (U.fun_ a n).kinds (U.fun_ a n).base (U.fun_ a n).params (U.fun_ a n).result ((U.fun_ a n).blocks.map encB) O s hw hs
    have k2 := wOClose (U.fun_ a n).kinds (U.fun_ a n).base (U.fun_ a n).params (U.fun_ a n).result ((U.fun_ a n).blocks.map encB) O s hw hs
    have k3 := wClose (U.fun_ a n).kinds (U.fun_ a n).base (U.fun_ a n).params (U.fun_ a n).result ((U.fun_ a n).blocks.map encB) O _ c1 c2
    rw [close_close O s] at k3
    have k4 := wRefs (U.fun_ a n).kinds (U.fun_ a n).base (U.fun_ a n).params (U.fun_ a n).result ((U.fun_ a n).blocks.map encB) s hw hs
    have k5 := wORefs (U.fun_ a n).kinds (U.fun_ a n).base (U.fun_ a n).params (U.fun_ a n).result ((U.fun_ a n).blocks.map encB) s hw hs hk
    have k6 := wDers (U.fun_ a n).kinds (U.fun_ a n).base (U.fun_ a n).params (U.fun_ a n).result ((U.fun_ a n).blocks.map encB) s hw hs
    have k7 := wODers (U.fun_ a n).kinds (U.fun_ a n).base (U.fun_ a n).params (U.fun_ a n).result ((U.fun_ a n).blocks.map encB) s hw hs hk
    have w1 := wr19 (U.closeL (U.fun_ a n).kinds (U.fun_ a n).base s) (by omega)
    have w2 := intsSame (U.refL (U.fun_ a n).kinds 1 s) (by unfold U.refL; omega)
    have w3 := intsSame (U.refL (U.fun_ a n).kinds 2 s) (by unfold U.refL; omega)
    refine turnK (t7_6 a s n (U.closeL (U.fun_ a n).kinds (U.fun_ a n).base s) (U.refL (U.fun_ a n).kinds 1 s) (U.refL (U.fun_ a n).kinds 2 s) _) ?_
    rw [List.length_map, decide_eq_true (show (n : Int) < a.length by omega), wrapS hi (by omega), rowF hi, getF hi]
    simp only [encF, rdI, rdL, slOf, List.getD_cons_zero, List.getD_cons_succ, int_goI]
    exact ⟨⟨by omega, by trivial⟩, k1, k2, w1, k3, w1, k4, k5, w2, k6, k7, w3, ih⟩
theorem wfk7 (p : XP) (s : List Int) (hw : Bit.Wd s) (hp : HandP p) : Wf Tryd.prog H 7 [.agg (encP p), .sl (s.map encU)] [] = some (goB true, [], []) := by
  refine runK (t7 p.funcs s (U.out12 p) _) ⟨wk9, wk10 p hp, ?_⟩
  rw [List.length_map]
  cases ho : U.out12 p with
  | true => exact rfl
  | false =>
    by_cases hl : (s.length : Int) > 70
    · rw [decide_eq_true hl]; exact rfl
    · rw [decide_eq_false hl]
      exact ⟨loopt7 p.funcs s hw (by omega) (askedK_of ho) p.funcs.length 0 (by omega), rfl⟩
namespace U
def wantS (K Bs s : List Int) (v : Int) : Nat → Nat → Bool → Bool
  | 0, _, w => w
  | d + 1, u, w => wantS K Bs s v d (u + 1) (w || ((nt K u == 2) && ((nt Bs u == v) && Bit.tb s u)))
end U
theorem wantS_iff (K Bs s : List Int) (v : Int) : ∀ (d u : Nat) (w : Bool), U.wantS K Bs s v d u w = true ↔ w = true ∨ ∃ e : Nat, u ≤ e ∧ e < u + d ∧ U.nt K e = 2 ∧ U.nt Bs e = v ∧ Bit.tb s e = true
  | 0, u, w => ⟨.inl, fun h => by
      rcases h with h | ⟨e, h1, h2, _⟩
      · exact h
      · omega⟩
  | d + 1, u, w => by
    unfold U.wantS
    rw [wantS_iff K Bs s v d (u + 1), Bool.or_eq_true, Bool.and_eq_true, Bool.and_eq_true, beq_iff_eq, beq_iff_eq]
    constructor
    · rintro ((h | ⟨h1, h2, h3⟩) | ⟨e, h1, h2, h3⟩)
      · exact .inl h
      · exact .inr ⟨u, Nat.le_refl _, by omega, h1, h2, h3⟩
      · exact .inr ⟨e, by omega, by omega, h3⟩
    · rintro (h | ⟨e, h1, h2, h3, h4, h5⟩)
      · exact .inl (.inl h)
      · by_cases e2 : e = u
        · subst e2; exact .inl (.inr ⟨h3, h4, h5⟩)
        · exact .inr ⟨e, by omega, by omega, h3, h4, h5⟩
section
variable (X : List (List AV)) (K Bs : List Int) (p q : Int) (bl : List (List AV)) (O : KOk K Bs) (s c : List Int) (hw : Bit.Wd s) (hs : s.length ≤ 1000) (n : Nat)
include O hw hs
theorem loopt8_15 (v : Nat) : ∀ (d u : Nat) (w : Bool), u + d = K.length →
    LoopTo Tryd.prog H (H 8) 0 (loopOf Tryd.prog 8 15) (mkS 93 [(1, .sl (s.map encU)), (2, .pt 0 0 0), (5, goI n), (6, .pt 1 0 0), (7, .sl (c.map encU)), (8, goI v), (9, goB w), (10, goI u)] [.box [.sl X], .box [.sl (K.map encI), .sl (Bs.map encI), goI p, goI q, .sl bl]])
      (.exit 4, mkS 93 [(1, .sl (s.map encU)), (2, .pt 0 0 0), (5, goI n), (6, .pt 1 0 0), (7, .sl (c.map encU)), (8, goI v), (9, goB (U.wantS K Bs s v d u w))] [.box [.sl X], .box [.sl (K.map encI), .sl (Bs.map encI), goI p, goI q, .sl bl]])
  | 0, u, w, hd => by
    refine turnK (t8_15 X K Bs p q bl s c n v w u _) ?_
    rw [List.length_map, decide_eq_false (by omega)]
    exact rfl
  | d + 1, u, w, hd => by
    have hK := O.len
    have hB := O.blen
    have hu : u < K.length := by omega
    have hu2 : u < Bs.length := by omega
    have ih := loopt8_15 v d (u + 1) (w || ((U.nt K u == 2) && ((U.nt Bs u == (v : Int)) && Bit.tb s u))) (by omega)
    have h26 := wr26 hw (u : Int) (by omega) (by omega)
    have eh : Bit.hasB s (u : Int) = Bit.tb s u := by unfold Bit.hasB; rw [decide_eq_true (by omega), Int.toNat_natCast]; rfl
    have e1 : rdI (rowAt (K.map encI) u) 0 = U.nt K u := by rw [rowI hu]; rfl
    have e2 : rdI (rowAt (Bs.map encI) u) 0 = U.nt Bs u := by rw [rowI hu2]; rfl
    rw [eh] at h26
    unfold U.wantS
    refine turnK (t8_15 X K Bs p q bl s c n v w u _) ?_
    rw [List.length_map, decide_eq_true (by omega), e1, getI hu, e2, getI hu2, wrapS hu (by omega), hasW_map, eh]
    cases w with
    | true => exact ih
    | false =>
      rw [Bool.false_or] at ih ⊢
      refine ⟨⟨by omega, rfl⟩, ?_⟩
      cases h2 : (U.nt K u == 2) with
      | false => rw [h2] at ih; exact ih
      | true =>
        rw [h2, Bool.true_and] at ih
        refine ⟨⟨by omega, rfl⟩, ?_⟩
        cases h3 : (U.nt Bs u == (v : Int)) with
        | false => rw [h3] at ih; exact ih
        | true =>
          rw [h3, Bool.true_and] at ih
          exact ⟨h26, ih⟩
theorem loopt8_11 (hc : c = U.closeL K Bs s) : ∀ (d v : Nat), v + d = K.length →
    LoopTo Tryd.prog H (H 8) 0 (loopOf Tryd.prog 8 11) (mkS 93 [(1, .sl (s.map encU)), (2, .pt 0 0 0), (5, goI n), (6, .pt 1 0 0), (7, .sl (c.map encU)), (8, goI v)] [.box [.sl X], .box [.sl (K.map encI), .sl (Bs.map encI), goI p, goI q, .sl bl]])
      (.exit 2, mkS 93 [(1, .sl (s.map encU)), (2, .pt 0 0 0), (5, goI n), (6, .pt 1 0 0), (7, .sl (c.map encU))] [.box [.sl X], .box [.sl (K.map encI), .sl (Bs.map encI), goI p, goI q, .sl bl]])
  | 0, v, hd => by
    refine turnK (t8_11 X K Bs p q bl s c n v false _) ?_
    rw [List.length_map, decide_eq_false (by omega)]
    exact rfl
  | d + 1, v, hd => by
    have hK := O.len
    have hv : v < K.length := by omega
    have ih := loopt8_11 hc d (v + 1) (by omega)
    have h26 := wr26 hw (v : Int) (by omega) (by omega)
    have eh : ∀ l : List Int, Bit.hasB l (v : Int) = Bit.tb l v := fun l => by unfold Bit.hasB; rw [decide_eq_true (by omega), Int.toNat_natCast]; rfl
    obtain ⟨c1, c2, c3, c4⟩ := closeL_ok O s
    rw [← hc] at c1 c2 c3 c4
    have h26c := wr26 c1 (v : Int) (by omega) (by omega)
    have h15 := loopt8_15 X K Bs p q bl O s c hw hs n v K.length 0 (Bit.tb s v) (by omega)
    have eW : U.wantS K Bs s v K.length 0 (Bit.tb s v) = Bit.tb c v := by
      rw [Bool.eq_iff_iff, wantS_iff, c4 v]
      unfold InC
      constructor
      · rintro (h | ⟨e, _, h2, h3, h4, h5⟩)
        · exact .inl ⟨hv, h⟩
        · exact .inr ⟨e, by omega, h3, h5, h4⟩
      · rintro (h | ⟨e, h2, h3, h4, h5⟩)
        · exact .inl h.2
        · exact .inr ⟨e, Nat.zero_le _, by omega, h3, h5, h4⟩
    rw [eW] at h15
    rw [eh] at h26 h26c
    refine turnK (t8_11 X K Bs p q bl s c n v (Bit.tb c v) _) ?_
    rw [List.length_map, decide_eq_true (by omega), hasW_map, hasW_map, eh, eh, wrapS hv (by omega), show (!(Bit.tb c v == Bit.tb c v)) = false by simp]
    exact ⟨h26, h15, h26c, ih⟩
end
theorem loopt8 (a : List XF) (s : List Int) (hw : Bit.Wd s) (hs : s.length ≤ 1000) (hK : AskedK a) : ∀ (d n : Nat), n + d = a.length →
    LoopTo Tryd.prog H (H 8) 0 (loopOf Tryd.prog 8 6) (mkS 93 [(1, .sl (s.map encU)), (2, .pt 0 0 0), (5, goI n)] [.box [.sl (a.map encF)], .dead]) (.exit 0, mkS 93 [] [.dead, .dead])
  | 0, n, hd => by
    refine turnK (t8_6 a s n [] [] [] [] _) ?_
    rw [List.length_map, decide_eq_false (by omega)]
    exact rfl
  | d + 1, n, hd => by
    have hi : n < a.length := by omega
    have ih := loopt8 a s hw hs hK d (n + 1) (by omega)
    have hlen := hK.len
    have hF := funcOk_of (okFunc_at hK.ok (fun_mem hi))
    have O := kOk_of hF
    have hk := hF.kinds
    obtain ⟨c1, c2, c3, c4⟩ := closeL_ok O s
    have k1 := wClose (U.fun_ a n).kinds (U.fun_ a n).base (U.fun_ a n).params (U.fun_ a n).result ((U.fun_ a n).blocks.map encB) O s hw hs
    have k4 := wRefs (U.fun_ a n).kinds (U.fun_ a n).base (U.fun_ a n).params (U.fun_ a n).result ((U.fun_ a n).blocks.map encB) _ c1 c2
    have k6 := wDers (U.fun_ a n).kinds (U.fun_ a n).base (U.fun_ a n).params (U.fun_ a n).result ((U.fun_ a n).blocks.map encB) _ c1 c2
    have k8 := wl41 _ c1 c2
    have h11 := loopt8_11 (a.map encF) (U.fun_ a n).kinds (U.fun_ a n).base (U.fun_ a n).params (U.fun_ a n).result ((U.fun_ a n).blocks.map encB) O s _ hw hs n rfl (U.fun_ a n).kinds.length 0 (by omega)
    have hcnt := close_count O s
    have l1 := selP_len (fun v => (U.nt (U.fun_ a n).kinds v == 1) && Bit.tb (U.closeL (U.fun_ a n).kinds (U.fun_ a n).base s) v) (U.fun_ a n).kinds.length 0
    have l2 := selP_len (fun v => (U.nt (U.fun_ a n).kinds v == 2) && Bit.tb (U.closeL (U.fun_ a n).kinds (U.fun_ a n).base s) v) (U.fun_ a n).kinds.length 0
    have l1' : (U.refL (U.fun_ a n).kinds 1 (U.closeL (U.fun_ a n).kinds (U.fun_ a n).base s)).length ≤ 48 := by unfold U.refL; omega
    have l2' : (U.refL (U.fun_ a n).kinds 2 (U.closeL (U.fun_ a n).kinds (U.fun_ a n).base s)).length ≤ 48 := by unfold U.refL; omega
    generalize U.closeL (U.fun_ a n).kinds (U.fun_ a n).base s = c at k1 k4 k6 k8 h11 hcnt l1' l2'
    generalize U.refL (U.fun_ a n).kinds 1 c = r1 at k4 hcnt l1'
    generalize U.refL (U.fun_ a n).kinds 2 c = r2 at k6 hcnt l2'
    generalize Bit.toI (Bit.numsL c c.length) = nl at k8 hcnt
    refine turnK (t8_6 a s n c r1 r2 nl _) ?_
    rw [List.length_map, decide_eq_true (show (n : Int) < a.length by omega), wrapS hi (by omega), rowF hi, getF hi]
    simp only [encF, rdI, rdL, slOf, List.getD_cons_zero, List.getD_cons_succ, int_goI, List.length_map, take_map]
    rw [wrap64 (by omega) (by omega), decide_eq_false (by omega)]
    exact ⟨⟨by omega, by trivial⟩, k1, h11, k4, k6, k8, ih⟩
theorem wfk8 (p : XP) (s : List Int) (hw : Bit.Wd s) (hp : HandP p) : Wf Tryd.prog H 8 [.agg (encP p), .sl (s.map encU)] [] = some (goB true, [], []) := by
  refine runK (t8 p.funcs s (U.out12 p) _) ⟨wk9, wk10 p hp, ?_⟩
  rw [List.length_map]
  cases ho : U.out12 p with
  | true => exact rfl
  | false =>
    by_cases hl : (s.length : Int) > 70
    · rw [decide_eq_true hl]; exact rfl
    · rw [decide_eq_false hl]
      exact ⟨loopt8 p.funcs s hw (by omega) (askedK_of ho) p.funcs.length 0 (by omega), rfl⟩
end Go.Proofs.YtdnekkkpngnmkaaDoor.E
