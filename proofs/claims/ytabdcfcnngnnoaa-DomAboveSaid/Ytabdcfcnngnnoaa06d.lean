/- Functions, by what the evaluator asks; the theorems t.. were printed by show.txt, a program of this session. -/
import Derived.Test.Ytabdcfcnngnnoaa06f
set_option linter.unusedVariables false
set_option linter.unusedSectionVars false
set_option linter.unusedSimpArgs false
set_option maxRecDepth 100000
namespace Go.Proofs.Ytabdcfcnngnnoaa.E
open Go
def FN30 (g : Bool) (n : Int) : CallT := fun f args sto => match f, args with
 | 37, _ => .is (goB g, [], [])
 | 38, _ => .is (goI n, [], [])
 | _, _ => .no
namespace U
noncomputable def domW (bl : List (List AV)) (a b : Int) : Bool := domB (nextAt (bl.map decB)) bl.length a b
noncomputable def meetW (bl : List (List AV)) (a b : Int) : Int := meetD (nextAt (bl.map decB)) bl.length a b
noncomputable def kidW (bl : List (List AV)) (b : Int) : List Int := kidsD (bl.map decB) b
noncomputable def aboW (bl : List (List AV)) : List Int := aboveL (bl.map decB)
end U
noncomputable def FN8 (o : Bool) : CallT := fun f args sto => match f, args with
 | 29, _ => .is (goB true, [], [])
 | 30, _ => .is (goB o, [], [])
 | 31, [.agg [_, _, _, _, .sl bl], .v (.int _ a), .v (.int _ b)] => .is (goB (U.domW bl a b), [], [])
 | 36, [.agg [_, _, _, _, .sl bl], .v (.int _ a), .v (.int _ b)] => .is (goI (U.meetW bl a b), [], [])
 | 34, [.agg [_, _, _, _, .sl bl], .v (.int _ b)] => .is (.os 0 0 (U.kidW bl b).length, [.arr 1 ((U.kidW bl b).map encI)], [])
 | 32, [.agg [_, _, _, _, .sl bl]] => .is (.os 0 0 bl.length, [.arr 1 ((U.aboW bl).map encI)], [])
 | _, _ => .no
def u8 (n : Int) : AV := .v (.int .u8 n)
set_option maxHeartbeats 4000000
def LN10 (i : Nat) : Nat → St → LT := fun id st => match id, st.2 with
 | 18, [x0, x1, _] => .is (.exit 2) (mkS 103 [(2, .pt 0 0 0), (3, .pt 1 0 0), (5, goI i)] [x0, x1, .dead])
 | _, _ => .no
def LN8 (i : Nat) (c x : Int) : Nat → St → LT := fun id st => match id with
 | 19 => .is (.exit 2) (mkS 132 [(2, .pt 0 0 0), (3, .pt 1 0 0), (5, goI i), (6, .pt 2 0 0), (10, goI c), (12, goI x)] st.2)
 | _ => .no
def LN11 (i : Nat) (n : Nat) (c : List Int) (b : Nat) : Nat → St → LT := fun id st => match id, st.2 with
 | 11, [x0, x1, _] => .is (.exit 2) (mkS 90 [(1, .pt 0 0 0), (3, goI i), (4, .pt 1 0 0), (5, .os 2 0 n)] [x0, x1, .arr 1 (c.map encI)])
 | 15, [x0, x1, _] => .is (.exit 4) (mkS 90 [(1, .pt 0 0 0), (3, goI i), (4, .pt 1 0 0), (5, .os 2 0 n), (6, goI b)] [x0, x1, .arr 1 (c.map encI)])
 | 21, [x0, _, _] => .is (.exit 6) (mkS 90 [(1, .pt 0 0 0), (3, goI i)] [x0, .dead, .dead])
 | _, _ => .no

theorem tn30 (a : List XF) (k : Int) (g : Bool) (n : Int) (r : AV × List Row × List Nat) : (runT Try.prog H (FN30 g n) (fun id st => LT.is (Ex.exit 0) (mkS 36 [(1, AV.pt 0 0 0), (3, goI k)] (St.sto st))) false 30
 [AV.agg [AV.sl (List.map encF a)]] [] fun q => q = r) = (LoopTo Try.prog H (H 30) 0 (loopOf Try.prog 30 3)
 (mkS 36 [(1, AV.pt 0 0 0), (3, goI 0), (4, goI 0)] [Row.box [AV.sl (List.map encF a)]])
 (Ex.exit 0, mkS 36 [(1, AV.pt 0 0 0), (3, goI k)] [Row.box [AV.sl (List.map encF a)]]) ∧
 TB (decide (k > 20)) ((goB true, [], []) = r)
 (Wf Try.prog H 37 [AV.agg [AV.sl (List.map encF a)]] [] = some (goB g, [], []) ∧
 TB g ((goB true, [], []) = r)
 (Wf Try.prog H 38 [AV.agg [AV.sl (List.map encF a)]] [] = some (goI n, [], []) ∧ (goB !n == 0, [], []) = r))) := by kernel_rfl
theorem tn30_3 (a : List XF) (n : Int) (i : Nat) (r : Ex × St) : (turnT Try.prog H (fun f args sto => CT.of (F0 f args sto)) L0 false (H 30) 0 (loopOf Try.prog 30 3)
 (mkS 36 [(1, AV.pt 0 0 0), (3, goI n), (4, goI (↑i : Int))] [Row.box [AV.sl (List.map encF a)]]) r) = (TB (decide ((↑i : Int) < (↑(List.length (List.map encF a)) : Int)))
 (TB (decide ((↑i : Int) < 9))
 ((0 ≤ (↑i : Int) ∧
 (List.map encF a)[i]? =
 some
 [AV.sl (rdL (rowAt (List.map encF a) i) 0), AV.sl (rdL (rowAt (List.map encF a) i) 1),
 goI (rdI (rowAt (List.map encF a) i) 2), goI (rdI (rowAt (List.map encF a) i) 3),
 AV.sl (rdL (rowAt (List.map encF a) i) 4)]) ∧
 LoopTo Try.prog H (H 30) 0 (loopOf Try.prog 30 3)
 (mkS 36
 [(1, AV.pt 0 0 0),
 (3,
 goI
 (if true = true then
 if n < (↑(List.length (rdL (rowAt (List.map encF a) i) 4)) : Int) then
 (↑(List.length (rdL (rowAt (List.map encF a) i) 4)) : Int)
 else n
 else
 if (↑(List.length (rdL (rowAt (List.map encF a) i) 4)) : Int) < n then
 (↑(List.length (rdL (rowAt (List.map encF a) i) 4)) : Int)
 else n)),
 (4, goI (IntKind.wrap IntKind.i64 ((↑i : Int) + 1)))]
 [Row.box [AV.sl (List.map encF a)]])
 r)
 ((Ex.exit 0, mkS 36 [(1, AV.pt 0 0 0), (3, goI n)] [Row.box [AV.sl (List.map encF a)]]) = r))
 ((Ex.exit 0, mkS 36 [(1, AV.pt 0 0 0), (3, goI n)] [Row.box [AV.sl (List.map encF a)]]) = r)) := by kernel_rfl
theorem tn10 (a : List XF) (u : Int) (v : Int) (o : Bool) (r : AV × List Row × List Nat) : (runT Try.prog H (FN8 o) (fun id st => LT.is (Ex.exit 0) (mkS 103 [] [Row.dead, Row.dead, Row.dead])) false 10
 [AV.agg [AV.sl (List.map encF a)], AV.agg [u8 u, u8 v]] [] fun q => q = r) = (Wf Try.prog H 29 [] [] = some (goB true, [], []) ∧
 Wf Try.prog H 30 [AV.agg [AV.sl (List.map encF a)]] [] = some (goB o, [], []) ∧
 TB o ((goB true, [], []) = r)
 (LoopTo Try.prog H (H 10) 0 (loopOf Try.prog 10 6)
 (mkS 103 [(2, AV.pt 0 0 0), (3, AV.pt 1 0 0), (5, goI 0)]
 [Row.box [AV.sl (List.map encF a)], Row.box [AV.v (Value.int IntKind.u8 u), AV.v (Value.int IntKind.u8 v)],
 Row.dead])
 (Ex.exit 0, mkS 103 [] [Row.dead, Row.dead, Row.dead]) ∧
 (goB true, [], []) = r)) := by kernel_rfl
theorem tn10_6 (a : List XF) (u : Int) (v : Int) (i : Nat) (r : Ex × St) : (turnT Try.prog H (FN8 false) (LN10 i) false (H 10) 0 (loopOf Try.prog 10 6)
 (mkS 103 [(2, AV.pt 0 0 0), (3, AV.pt 1 0 0), (5, goI (↑i : Int))]
 [Row.box [AV.sl (List.map encF a)], Row.box [u8 u, u8 v], Row.dead])
 r) = (TB (decide ((↑i : Int) < (↑(List.length (List.map encF a)) : Int)))
 ((0 ≤ (↑i : Int) ∧
 (List.map encF a)[i]? =
 some
 [AV.sl (rdL (rowAt (List.map encF a) i) 0), AV.sl (rdL (rowAt (List.map encF a) i) 1),
 goI (rdI (rowAt (List.map encF a) i) 2), goI (rdI (rowAt (List.map encF a) i) 3),
 AV.sl (rdL (rowAt (List.map encF a) i) 4)]) ∧
 (iz 0 ≤ 0 ∧ 0 < (↑2 : Int)) ∧
 (↑(List.length (rdL (rowAt (List.map encF a) i) 4)) : Int) ≠ 0 ∧
 (iz 0 ≤ 1 ∧ 1 < (↑2 : Int)) ∧
 (↑(List.length (rdL (rowAt (List.map encF a) i) 4)) : Int) ≠ 0 ∧
 Wf Try.prog H 36
 [AV.agg
 [AV.sl (rdL (rowAt (List.map encF a) i) 0), AV.sl (rdL (rowAt (List.map encF a) i) 1),
 goI (rdI (rowAt (List.map encF a) i) 2), goI (rdI (rowAt (List.map encF a) i) 3),
 AV.sl (rdL (rowAt (List.map encF a) i) 4)],
 goI
 (Int.tmod (IntKind.wrap IntKind.i64 u)
 (↑(List.length (rdL (rowAt (List.map encF a) i) 4)) : Int)),
 goI
 (Int.tmod (IntKind.wrap IntKind.i64 v)
 (↑(List.length (rdL (rowAt (List.map encF a) i) 4)) : Int))]
 [] =
 some
 (goI
 (U.meetW (rdL (rowAt (List.map encF a) i) 4)
 (Int.tmod (IntKind.wrap IntKind.i64 u)
 (↑(List.length (rdL (rowAt (List.map encF a) i) 4)) : Int))
 (Int.tmod (IntKind.wrap IntKind.i64 v)
 (↑(List.length (rdL (rowAt (List.map encF a) i) 4)) : Int))),
 [], []) ∧
 Wf Try.prog H 31
 [AV.agg
 [AV.sl (rdL (rowAt (List.map encF a) i) 0), AV.sl (rdL (rowAt (List.map encF a) i) 1),
 goI (rdI (rowAt (List.map encF a) i) 2), goI (rdI (rowAt (List.map encF a) i) 3),
 AV.sl (rdL (rowAt (List.map encF a) i) 4)],
 goI 0,
 goI
 (Int.tmod (IntKind.wrap IntKind.i64 u)
 (↑(List.length (rdL (rowAt (List.map encF a) i) 4)) : Int))]
 [] =
 some
 (goB
 (U.domW (rdL (rowAt (List.map encF a) i) 4) 0
 (Int.tmod (IntKind.wrap IntKind.i64 u)
 (↑(List.length (rdL (rowAt (List.map encF a) i) 4)) : Int))),
 [], []) ∧
 TB
 (!U.domW (rdL (rowAt (List.map encF a) i) 4) 0
 (Int.tmod (IntKind.wrap IntKind.i64 u)
 (↑(List.length (rdL (rowAt (List.map encF a) i) 4)) : Int)))
 (TB
 (!U.meetW (rdL (rowAt (List.map encF a) i) 4)
 (Int.tmod (IntKind.wrap IntKind.i64 u)
 (↑(List.length (rdL (rowAt (List.map encF a) i) 4)) : Int))
 (Int.tmod (IntKind.wrap IntKind.i64 v)
 (↑(List.length (rdL (rowAt (List.map encF a) i) 4)) : Int)) ==
 -1)
 ((Ex.ret, mkS 103 [(4, goB false)] [Row.dead, Row.dead, Row.dead]) = r)
 (LoopTo Try.prog H (H 10) 0 (loopOf Try.prog 10 6)
 (mkS 103
 [(2, AV.pt 0 0 0), (3, AV.pt 1 0 0), (5, goI (IntKind.wrap IntKind.i64 ((↑i : Int) + 1)))]
 [Row.box [AV.sl (List.map encF a)],
 Row.box [AV.v (Value.int IntKind.u8 u), AV.v (Value.int IntKind.u8 v)], Row.dead])
 r))
 (Wf Try.prog H 31
 [AV.agg
 [AV.sl (rdL (rowAt (List.map encF a) i) 0), AV.sl (rdL (rowAt (List.map encF a) i) 1),
 goI (rdI (rowAt (List.map encF a) i) 2), goI (rdI (rowAt (List.map encF a) i) 3),
 AV.sl (rdL (rowAt (List.map encF a) i) 4)],
 goI 0,
 goI
 (Int.tmod (IntKind.wrap IntKind.i64 v)
 (↑(List.length (rdL (rowAt (List.map encF a) i) 4)) : Int))]
 [] =
 some
 (goB
 (U.domW (rdL (rowAt (List.map encF a) i) 4) 0
 (Int.tmod (IntKind.wrap IntKind.i64 v)
 (↑(List.length (rdL (rowAt (List.map encF a) i) 4)) : Int))),
 [], []) ∧
 TB
 (!U.domW (rdL (rowAt (List.map encF a) i) 4) 0
 (Int.tmod (IntKind.wrap IntKind.i64 v)
 (↑(List.length (rdL (rowAt (List.map encF a) i) 4)) : Int)))
 (TB
 (!U.meetW (rdL (rowAt (List.map encF a) i) 4)
 (Int.tmod (IntKind.wrap IntKind.i64 u)
 (↑(List.length (rdL (rowAt (List.map encF a) i) 4)) : Int))
 (Int.tmod (IntKind.wrap IntKind.i64 v)
 (↑(List.length (rdL (rowAt (List.map encF a) i) 4)) : Int)) ==
 -1)
 ((Ex.ret, mkS 103 [(4, goB false)] [Row.dead, Row.dead, Row.dead]) = r)
 (LoopTo Try.prog H (H 10) 0 (loopOf Try.prog 10 6)
 (mkS 103
 [(2, AV.pt 0 0 0), (3, AV.pt 1 0 0), (5, goI (IntKind.wrap IntKind.i64 ((↑i : Int) + 1)))]
 [Row.box [AV.sl (List.map encF a)],
 Row.box [AV.v (Value.int IntKind.u8 u), AV.v (Value.int IntKind.u8 v)], Row.dead])
 r))
 (Wf Try.prog H 31
 [AV.agg
 [AV.sl (rdL (rowAt (List.map encF a) i) 0), AV.sl (rdL (rowAt (List.map encF a) i) 1),
 goI (rdI (rowAt (List.map encF a) i) 2), goI (rdI (rowAt (List.map encF a) i) 3),
 AV.sl (rdL (rowAt (List.map encF a) i) 4)],
 goI
 (U.meetW (rdL (rowAt (List.map encF a) i) 4)
 (Int.tmod (IntKind.wrap IntKind.i64 u)
 (↑(List.length (rdL (rowAt (List.map encF a) i) 4)) : Int))
 (Int.tmod (IntKind.wrap IntKind.i64 v)
 (↑(List.length (rdL (rowAt (List.map encF a) i) 4)) : Int))),
 goI
 (Int.tmod (IntKind.wrap IntKind.i64 u)
 (↑(List.length (rdL (rowAt (List.map encF a) i) 4)) : Int))]
 [] =
 some
 (goB
 (U.domW (rdL (rowAt (List.map encF a) i) 4)
 (U.meetW (rdL (rowAt (List.map encF a) i) 4)
 (Int.tmod (IntKind.wrap IntKind.i64 u)
 (↑(List.length (rdL (rowAt (List.map encF a) i) 4)) : Int))
 (Int.tmod (IntKind.wrap IntKind.i64 v)
 (↑(List.length (rdL (rowAt (List.map encF a) i) 4)) : Int)))
 (Int.tmod (IntKind.wrap IntKind.i64 u)
 (↑(List.length (rdL (rowAt (List.map encF a) i) 4)) : Int))),
 [], []) ∧
 TB
 (!U.domW (rdL (rowAt (List.map encF a) i) 4)
 (U.meetW (rdL (rowAt (List.map encF a) i) 4)
 (Int.tmod (IntKind.wrap IntKind.i64 u)
 (↑(List.length (rdL (rowAt (List.map encF a) i) 4)) : Int))
 (Int.tmod (IntKind.wrap IntKind.i64 v)
 (↑(List.length (rdL (rowAt (List.map encF a) i) 4)) : Int)))
 (Int.tmod (IntKind.wrap IntKind.i64 u)
 (↑(List.length (rdL (rowAt (List.map encF a) i) 4)) : Int)))
 ((Ex.ret, mkS 103 [(4, goB false)] [Row.dead, Row.dead, Row.dead]) = r)
 (Wf Try.prog H 31
 [AV.agg
 [AV.sl (rdL (rowAt (List.map encF a) i) 0),
 AV.sl (rdL (rowAt (List.map encF a) i) 1),
 goI (rdI (rowAt (List.map encF a) i) 2), goI (rdI (rowAt (List.map encF a) i) 3),
 AV.sl (rdL (rowAt (List.map encF a) i) 4)],
 goI
 (U.meetW (rdL (rowAt (List.map encF a) i) 4)
 (Int.tmod (IntKind.wrap IntKind.i64 u)
 (↑(List.length (rdL (rowAt (List.map encF a) i) 4)) : Int))
 (Int.tmod (IntKind.wrap IntKind.i64 v)
 (↑(List.length (rdL (rowAt (List.map encF a) i) 4)) : Int))),
 goI
 (Int.tmod (IntKind.wrap IntKind.i64 v)
 (↑(List.length (rdL (rowAt (List.map encF a) i) 4)) : Int))]
 [] =
 some
 (goB
 (U.domW (rdL (rowAt (List.map encF a) i) 4)
 (U.meetW (rdL (rowAt (List.map encF a) i) 4)
 (Int.tmod (IntKind.wrap IntKind.i64 u)
 (↑(List.length (rdL (rowAt (List.map encF a) i) 4)) : Int))
 (Int.tmod (IntKind.wrap IntKind.i64 v)
 (↑(List.length (rdL (rowAt (List.map encF a) i) 4)) : Int)))
 (Int.tmod (IntKind.wrap IntKind.i64 v)
 (↑(List.length (rdL (rowAt (List.map encF a) i) 4)) : Int))),
 [], []) ∧
 TB
 (!U.domW (rdL (rowAt (List.map encF a) i) 4)
 (U.meetW (rdL (rowAt (List.map encF a) i) 4)
 (Int.tmod (IntKind.wrap IntKind.i64 u)
 (↑(List.length (rdL (rowAt (List.map encF a) i) 4)) : Int))
 (Int.tmod (IntKind.wrap IntKind.i64 v)
 (↑(List.length (rdL (rowAt (List.map encF a) i) 4)) : Int)))
 (Int.tmod (IntKind.wrap IntKind.i64 v)
 (↑(List.length (rdL (rowAt (List.map encF a) i) 4)) : Int)))
 ((Ex.ret, mkS 103 [(4, goB false)] [Row.dead, Row.dead, Row.dead]) = r)
 (Wf Try.prog H 36
 [AV.agg
 [AV.sl (rdL (rowAt (List.map encF a) i) 0),
 AV.sl (rdL (rowAt (List.map encF a) i) 1),
 goI (rdI (rowAt (List.map encF a) i) 2),
 goI (rdI (rowAt (List.map encF a) i) 3),
 AV.sl (rdL (rowAt (List.map encF a) i) 4)],
 goI
 (Int.tmod (IntKind.wrap IntKind.i64 v)
 (↑(List.length (rdL (rowAt (List.map encF a) i) 4)) : Int)),
 goI
 (Int.tmod (IntKind.wrap IntKind.i64 u)
 (↑(List.length (rdL (rowAt (List.map encF a) i) 4)) : Int))]
 [] =
 some
 (goI
 (U.meetW (rdL (rowAt (List.map encF a) i) 4)
 (Int.tmod (IntKind.wrap IntKind.i64 v)
 (↑(List.length (rdL (rowAt (List.map encF a) i) 4)) : Int))
 (Int.tmod (IntKind.wrap IntKind.i64 u)
 (↑(List.length (rdL (rowAt (List.map encF a) i) 4)) : Int))),
 [], []) ∧
 TB
 (!U.meetW (rdL (rowAt (List.map encF a) i) 4)
 (Int.tmod (IntKind.wrap IntKind.i64 u)
 (↑(List.length (rdL (rowAt (List.map encF a) i) 4)) : Int))
 (Int.tmod (IntKind.wrap IntKind.i64 v)
 (↑(List.length (rdL (rowAt (List.map encF a) i) 4)) : Int)) ==
 U.meetW (rdL (rowAt (List.map encF a) i) 4)
 (Int.tmod (IntKind.wrap IntKind.i64 v)
 (↑(List.length (rdL (rowAt (List.map encF a) i) 4)) : Int))
 (Int.tmod (IntKind.wrap IntKind.i64 u)
 (↑(List.length (rdL (rowAt (List.map encF a) i) 4)) : Int)))
 ((Ex.ret, mkS 103 [(4, goB false)] [Row.dead, Row.dead, Row.dead]) = r)
 (Wf Try.prog H 34
 [AV.agg
 [AV.sl (rdL (rowAt (List.map encF a) i) 0),
 AV.sl (rdL (rowAt (List.map encF a) i) 1),
 goI (rdI (rowAt (List.map encF a) i) 2),
 goI (rdI (rowAt (List.map encF a) i) 3),
 AV.sl (rdL (rowAt (List.map encF a) i) 4)],
 goI
 (U.meetW (rdL (rowAt (List.map encF a) i) 4)
 (Int.tmod (IntKind.wrap IntKind.i64 u)
 (↑(List.length (rdL (rowAt (List.map encF a) i) 4)) : Int))
 (Int.tmod (IntKind.wrap IntKind.i64 v)
 (↑(List.length (rdL (rowAt (List.map encF a) i) 4)) : Int)))]
 [] =
 some
 (AV.os 0 0
 (List.length
 (U.kidW (rdL (rowAt (List.map encF a) i) 4)
 (U.meetW (rdL (rowAt (List.map encF a) i) 4)
 (Int.tmod (IntKind.wrap IntKind.i64 u)
 (↑(List.length (rdL (rowAt (List.map encF a) i) 4)) : Int))
 (Int.tmod (IntKind.wrap IntKind.i64 v)
 (↑(List.length (rdL (rowAt (List.map encF a) i) 4)) : Int))))),
 [Row.arr 1
 (List.map encI
 (U.kidW (rdL (rowAt (List.map encF a) i) 4)
 (U.meetW (rdL (rowAt (List.map encF a) i) 4)
 (Int.tmod (IntKind.wrap IntKind.i64 u)
 (↑(List.length (rdL (rowAt (List.map encF a) i) 4)) : Int))
 (Int.tmod (IntKind.wrap IntKind.i64 v)
 (↑(List.length (rdL (rowAt (List.map encF a) i) 4)) : Int)))))],
 []) ∧
 LoopTo Try.prog H (H 10) 0 (loopOf Try.prog 10 18)
 (mkS 103
 [(2, AV.pt 0 0 0), (3, AV.pt 1 0 0), (5, goI (↑i : Int)), (6, AV.pt 2 0 0),
 (7,
 goI
 (Int.tmod (IntKind.wrap IntKind.i64 u)
 (↑(List.length (rdL (rowAt (List.map encF a) i) 4)) : Int))),
 (8,
 goI
 (Int.tmod (IntKind.wrap IntKind.i64 v)
 (↑(List.length (rdL (rowAt (List.map encF a) i) 4)) : Int))),
 (10,
 AV.sl
 (List.take
 (List.length
 (U.kidW (rdL (rowAt (List.map encF a) i) 4)
 (U.meetW (rdL (rowAt (List.map encF a) i) 4)
 (Int.tmod (IntKind.wrap IntKind.i64 u)
 (↑(List.length (rdL (rowAt (List.map encF a) i) 4)) : Int))
 (Int.tmod (IntKind.wrap IntKind.i64 v)
 (↑(List.length (rdL (rowAt (List.map encF a) i) 4)) : Int)))))
 (List.drop 0
 (List.map encI
 (U.kidW (rdL (rowAt (List.map encF a) i) 4)
 (U.meetW (rdL (rowAt (List.map encF a) i) 4)
 (Int.tmod (IntKind.wrap IntKind.i64 u)
 (↑(List.length (rdL (rowAt (List.map encF a) i) 4)) : Int))
 (Int.tmod (IntKind.wrap IntKind.i64 v)
 (↑(List.length (rdL (rowAt (List.map encF a) i) 4)) :
 Int)))))))),
 (11, goI 0)]
 [Row.box [AV.sl (List.map encF a)],
 Row.box [AV.v (Value.int IntKind.u8 u), AV.v (Value.int IntKind.u8 v)],
 Row.box
 [AV.sl (rdL (rowAt (List.map encF a) i) 0),
 AV.sl (rdL (rowAt (List.map encF a) i) 1),
 goI (rdI (rowAt (List.map encF a) i) 2),
 goI (rdI (rowAt (List.map encF a) i) 3),
 AV.sl (rdL (rowAt (List.map encF a) i) 4)]])
 (Ex.exit 2,
 mkS 103 [(2, AV.pt 0 0 0), (3, AV.pt 1 0 0), (5, goI (↑i : Int))]
 [Row.box [AV.sl (List.map encF a)],
 Row.box [AV.v (Value.int IntKind.u8 u), AV.v (Value.int IntKind.u8 v)],
 Row.dead]) ∧
 LoopTo Try.prog H (H 10) 0 (loopOf Try.prog 10 6)
 (mkS 103
 [(2, AV.pt 0 0 0), (3, AV.pt 1 0 0),
 (5, goI (IntKind.wrap IntKind.i64 ((↑i : Int) + 1)))]
 [Row.box [AV.sl (List.map encF a)],
 Row.box [AV.v (Value.int IntKind.u8 u), AV.v (Value.int IntKind.u8 v)],
 Row.dead])
 r))))))
 ((Ex.exit 0, mkS 103 [] [Row.dead, Row.dead, Row.dead]) = r)) := by kernel_rfl
theorem tn10_18 (X : List (List AV)) (u : Int) (v : Int) (A : Int) (B : Int) (p : Int) (q : Int) (ks : List (List AV)) (bs : List (List AV)) (bl : List XB) (i : Nat) (l : List Int) (k : Nat) (r : Ex × St) : (turnT Try.prog H (FN8 false) L0 false (H 10) 0 (loopOf Try.prog 10 18)
 (mkS 103
 [(2, AV.pt 0 0 0), (3, AV.pt 1 0 0), (5, goI (↑i : Int)), (6, AV.pt 2 0 0), (7, goI A), (8, goI B),
 (10, AV.sl (List.map encI l)), (11, goI (↑k : Int))]
 [Row.box [AV.sl X], Row.box [u8 u, u8 v], Row.box [AV.sl ks, AV.sl bs, goI p, goI q, AV.sl (List.map encB bl)]])
 r) = (TB (decide ((↑k : Int) < (↑(List.length (List.map encI l)) : Int)))
 ((0 ≤ (↑k : Int) ∧ (List.map encI l)[k]? = some [goI (rdI (rowAt (List.map encI l) k) 0)]) ∧
 Wf Try.prog H 31
 [AV.agg [AV.sl ks, AV.sl bs, goI p, goI q, AV.sl (List.map encB bl)], goI (rdI (rowAt (List.map encI l) k) 0),
 goI A]
 [] =
 some (goB (U.domW (List.map encB bl) (rdI (rowAt (List.map encI l) k) 0) A), [], []) ∧
 TB (U.domW (List.map encB bl) (rdI (rowAt (List.map encI l) k) 0) A)
 ((0 ≤ (↑k : Int) ∧ (List.map encI l)[k]? = some [goI (rdI (rowAt (List.map encI l) k) 0)]) ∧
 Wf Try.prog H 31
 [AV.agg [AV.sl ks, AV.sl bs, goI p, goI q, AV.sl (List.map encB bl)],
 goI (rdI (rowAt (List.map encI l) k) 0), goI B]
 [] =
 some (goB (U.domW (List.map encB bl) (rdI (rowAt (List.map encI l) k) 0) B), [], []) ∧
 TB (U.domW (List.map encB bl) (rdI (rowAt (List.map encI l) k) 0) B)
 ((Ex.ret, mkS 103 [(4, goB false)] [Row.dead, Row.dead, Row.dead]) = r)
 (LoopTo Try.prog H (H 10) 0 (loopOf Try.prog 10 18)
 (mkS 103
 [(2, AV.pt 0 0 0), (3, AV.pt 1 0 0), (5, goI (↑i : Int)), (6, AV.pt 2 0 0), (7, goI A), (8, goI B),
 (10, AV.sl (List.map encI l)), (11, goI (IntKind.wrap IntKind.i64 ((↑k : Int) + 1)))]
 [Row.box [AV.sl X], Row.box [AV.v (Value.int IntKind.u8 u), AV.v (Value.int IntKind.u8 v)],
 Row.box [AV.sl ks, AV.sl bs, goI p, goI q, AV.sl (List.map encB bl)]])
 r))
 (LoopTo Try.prog H (H 10) 0 (loopOf Try.prog 10 18)
 (mkS 103
 [(2, AV.pt 0 0 0), (3, AV.pt 1 0 0), (5, goI (↑i : Int)), (6, AV.pt 2 0 0), (7, goI A), (8, goI B),
 (10, AV.sl (List.map encI l)), (11, goI (IntKind.wrap IntKind.i64 ((↑k : Int) + 1)))]
 [Row.box [AV.sl X], Row.box [AV.v (Value.int IntKind.u8 u), AV.v (Value.int IntKind.u8 v)],
 Row.box [AV.sl ks, AV.sl bs, goI p, goI q, AV.sl (List.map encB bl)]])
 r))
 ((Ex.exit 2,
 mkS 103 [(2, AV.pt 0 0 0), (3, AV.pt 1 0 0), (5, goI (↑i : Int))]
 [Row.box [AV.sl X], Row.box [AV.v (Value.int IntKind.u8 u), AV.v (Value.int IntKind.u8 v)], Row.dead]) =
 r)) := by kernel_rfl
theorem tn8 (a : List XF) (u : Int) (v : Int) (w : Int) (o : Bool) (r : AV × List Row × List Nat) : (runT Try.prog H (FN8 o) (fun id st => LT.is (Ex.exit 0) (mkS 132 [] [Row.dead, Row.dead, Row.dead])) false 8
 [AV.agg [AV.sl (List.map encF a)], AV.agg [u8 u, u8 v, u8 w]] [] fun q => q = r) = (Wf Try.prog H 29 [] [] = some (goB true, [], []) ∧
 Wf Try.prog H 30 [AV.agg [AV.sl (List.map encF a)]] [] = some (goB o, [], []) ∧
 TB o ((goB true, [], []) = r)
 (LoopTo Try.prog H (H 8) 0 (loopOf Try.prog 8 6)
 (mkS 132 [(2, AV.pt 0 0 0), (3, AV.pt 1 0 0), (5, goI 0)]
 [Row.box [AV.sl (List.map encF a)],
 Row.box [AV.v (Value.int IntKind.u8 u), AV.v (Value.int IntKind.u8 v), AV.v (Value.int IntKind.u8 w)],
 Row.dead])
 (Ex.exit 0, mkS 132 [] [Row.dead, Row.dead, Row.dead]) ∧
 (goB true, [], []) = r)) := by kernel_rfl
theorem tn8_6 (a : List XF) (u : Int) (v : Int) (w : Int) (i : Nat) (c : Int) (x : Int) (r : Ex × St) : (turnT Try.prog H (FN8 false) (LN8 i c x) false (H 8) 0 (loopOf Try.prog 8 6)
 (mkS 132 [(2, AV.pt 0 0 0), (3, AV.pt 1 0 0), (5, goI (↑i : Int))]
 [Row.box [AV.sl (List.map encF a)], Row.box [u8 u, u8 v, u8 w], Row.dead])
 r) = (TB (decide ((↑i : Int) < (↑(List.length (List.map encF a)) : Int)))
 ((0 ≤ (↑i : Int) ∧
 (List.map encF a)[i]? =
 some
 [AV.sl (rdL (rowAt (List.map encF a) i) 0), AV.sl (rdL (rowAt (List.map encF a) i) 1),
 goI (rdI (rowAt (List.map encF a) i) 2), goI (rdI (rowAt (List.map encF a) i) 3),
 AV.sl (rdL (rowAt (List.map encF a) i) 4)]) ∧
 (iz 0 ≤ 0 ∧ 0 < (↑3 : Int)) ∧
 (↑(List.length (rdL (rowAt (List.map encF a) i) 4)) : Int) ≠ 0 ∧
 (iz 0 ≤ 1 ∧ 1 < (↑3 : Int)) ∧
 (↑(List.length (rdL (rowAt (List.map encF a) i) 4)) : Int) ≠ 0 ∧
 (iz 0 ≤ 2 ∧ 2 < (↑3 : Int)) ∧
 (↑(List.length (rdL (rowAt (List.map encF a) i) 4)) : Int) ≠ 0 ∧
 Wf Try.prog H 31
 [AV.agg
 [AV.sl (rdL (rowAt (List.map encF a) i) 0), AV.sl (rdL (rowAt (List.map encF a) i) 1),
 goI (rdI (rowAt (List.map encF a) i) 2), goI (rdI (rowAt (List.map encF a) i) 3),
 AV.sl (rdL (rowAt (List.map encF a) i) 4)],
 goI
 (Int.tmod (IntKind.wrap IntKind.i64 u)
 (↑(List.length (rdL (rowAt (List.map encF a) i) 4)) : Int)),
 goI
 (Int.tmod (IntKind.wrap IntKind.i64 v)
 (↑(List.length (rdL (rowAt (List.map encF a) i) 4)) : Int))]
 [] =
 some
 (goB
 (U.domW (rdL (rowAt (List.map encF a) i) 4)
 (Int.tmod (IntKind.wrap IntKind.i64 u)
 (↑(List.length (rdL (rowAt (List.map encF a) i) 4)) : Int))
 (Int.tmod (IntKind.wrap IntKind.i64 v)
 (↑(List.length (rdL (rowAt (List.map encF a) i) 4)) : Int))),
 [], []) ∧
 TB
 (U.domW (rdL (rowAt (List.map encF a) i) 4)
 (Int.tmod (IntKind.wrap IntKind.i64 u) (↑(List.length (rdL (rowAt (List.map encF a) i) 4)) : Int))
 (Int.tmod (IntKind.wrap IntKind.i64 v)
 (↑(List.length (rdL (rowAt (List.map encF a) i) 4)) : Int)))
 (Wf Try.prog H 31
 [AV.agg
 [AV.sl (rdL (rowAt (List.map encF a) i) 0), AV.sl (rdL (rowAt (List.map encF a) i) 1),
 goI (rdI (rowAt (List.map encF a) i) 2), goI (rdI (rowAt (List.map encF a) i) 3),
 AV.sl (rdL (rowAt (List.map encF a) i) 4)],
 goI
 (Int.tmod (IntKind.wrap IntKind.i64 v)
 (↑(List.length (rdL (rowAt (List.map encF a) i) 4)) : Int)),
 goI
 (Int.tmod (IntKind.wrap IntKind.i64 w)
 (↑(List.length (rdL (rowAt (List.map encF a) i) 4)) : Int))]
 [] =
 some
 (goB
 (U.domW (rdL (rowAt (List.map encF a) i) 4)
 (Int.tmod (IntKind.wrap IntKind.i64 v)
 (↑(List.length (rdL (rowAt (List.map encF a) i) 4)) : Int))
 (Int.tmod (IntKind.wrap IntKind.i64 w)
 (↑(List.length (rdL (rowAt (List.map encF a) i) 4)) : Int))),
 [], []) ∧
 TB
 (U.domW (rdL (rowAt (List.map encF a) i) 4)
 (Int.tmod (IntKind.wrap IntKind.i64 v)
 (↑(List.length (rdL (rowAt (List.map encF a) i) 4)) : Int))
 (Int.tmod (IntKind.wrap IntKind.i64 w)
 (↑(List.length (rdL (rowAt (List.map encF a) i) 4)) : Int)))
 (Wf Try.prog H 31
 [AV.agg
 [AV.sl (rdL (rowAt (List.map encF a) i) 0), AV.sl (rdL (rowAt (List.map encF a) i) 1),
 goI (rdI (rowAt (List.map encF a) i) 2), goI (rdI (rowAt (List.map encF a) i) 3),
 AV.sl (rdL (rowAt (List.map encF a) i) 4)],
 goI
 (Int.tmod (IntKind.wrap IntKind.i64 u)
 (↑(List.length (rdL (rowAt (List.map encF a) i) 4)) : Int)),
 goI
 (Int.tmod (IntKind.wrap IntKind.i64 w)
 (↑(List.length (rdL (rowAt (List.map encF a) i) 4)) : Int))]
 [] =
 some
 (goB
 (U.domW (rdL (rowAt (List.map encF a) i) 4)
 (Int.tmod (IntKind.wrap IntKind.i64 u)
 (↑(List.length (rdL (rowAt (List.map encF a) i) 4)) : Int))
 (Int.tmod (IntKind.wrap IntKind.i64 w)
 (↑(List.length (rdL (rowAt (List.map encF a) i) 4)) : Int))),
 [], []) ∧
 TB
 (!U.domW (rdL (rowAt (List.map encF a) i) 4)
 (Int.tmod (IntKind.wrap IntKind.i64 u)
 (↑(List.length (rdL (rowAt (List.map encF a) i) 4)) : Int))
 (Int.tmod (IntKind.wrap IntKind.i64 w)
 (↑(List.length (rdL (rowAt (List.map encF a) i) 4)) : Int)))
 ((Ex.ret, mkS 132 [(4, goB false)] [Row.dead, Row.dead, Row.dead]) = r)
 (Wf Try.prog H 31
 [AV.agg
 [AV.sl (rdL (rowAt (List.map encF a) i) 0),
 AV.sl (rdL (rowAt (List.map encF a) i) 1),
 goI (rdI (rowAt (List.map encF a) i) 2),
 goI (rdI (rowAt (List.map encF a) i) 3),
 AV.sl (rdL (rowAt (List.map encF a) i) 4)],
 goI
 (Int.tmod (IntKind.wrap IntKind.i64 u)
 (↑(List.length (rdL (rowAt (List.map encF a) i) 4)) : Int)),
 goI
 (Int.tmod (IntKind.wrap IntKind.i64 w)
 (↑(List.length (rdL (rowAt (List.map encF a) i) 4)) : Int))]
 [] =
 some
 (goB
 (U.domW (rdL (rowAt (List.map encF a) i) 4)
 (Int.tmod (IntKind.wrap IntKind.i64 u)
 (↑(List.length (rdL (rowAt (List.map encF a) i) 4)) : Int))
 (Int.tmod (IntKind.wrap IntKind.i64 w)
 (↑(List.length (rdL (rowAt (List.map encF a) i) 4)) : Int))),
 [], []) ∧
 TB
 (U.domW (rdL (rowAt (List.map encF a) i) 4)
 (Int.tmod (IntKind.wrap IntKind.i64 u)
 (↑(List.length (rdL (rowAt (List.map encF a) i) 4)) : Int))
 (Int.tmod (IntKind.wrap IntKind.i64 w)
 (↑(List.length (rdL (rowAt (List.map encF a) i) 4)) : Int)))
 (Wf Try.prog H 31
 [AV.agg
 [AV.sl (rdL (rowAt (List.map encF a) i) 0),
 AV.sl (rdL (rowAt (List.map encF a) i) 1),
 goI (rdI (rowAt (List.map encF a) i) 2),
 goI (rdI (rowAt (List.map encF a) i) 3),
 AV.sl (rdL (rowAt (List.map encF a) i) 4)],
 goI
 (Int.tmod (IntKind.wrap IntKind.i64 v)
 (↑(List.length (rdL (rowAt (List.map encF a) i) 4)) : Int)),
 goI
 (Int.tmod (IntKind.wrap IntKind.i64 w)
 (↑(List.length (rdL (rowAt (List.map encF a) i) 4)) : Int))]
 [] =
 some
 (goB
 (U.domW (rdL (rowAt (List.map encF a) i) 4)
 (Int.tmod (IntKind.wrap IntKind.i64 v)
 (↑(List.length (rdL (rowAt (List.map encF a) i) 4)) : Int))
 (Int.tmod (IntKind.wrap IntKind.i64 w)
 (↑(List.length (rdL (rowAt (List.map encF a) i) 4)) : Int))),
 [], []) ∧
 TB
 (U.domW (rdL (rowAt (List.map encF a) i) 4)
 (Int.tmod (IntKind.wrap IntKind.i64 v)
 (↑(List.length (rdL (rowAt (List.map encF a) i) 4)) : Int))
 (Int.tmod (IntKind.wrap IntKind.i64 w)
 (↑(List.length (rdL (rowAt (List.map encF a) i) 4)) : Int)))
 (Wf Try.prog H 31
 [AV.agg
 [AV.sl (rdL (rowAt (List.map encF a) i) 0),
 AV.sl (rdL (rowAt (List.map encF a) i) 1),
 goI (rdI (rowAt (List.map encF a) i) 2),
 goI (rdI (rowAt (List.map encF a) i) 3),
 AV.sl (rdL (rowAt (List.map encF a) i) 4)],
 goI
 (Int.tmod (IntKind.wrap IntKind.i64 u)
 (↑(List.length (rdL (rowAt (List.map encF a) i) 4)) : Int)),
 goI
 (Int.tmod (IntKind.wrap IntKind.i64 v)
 (↑(List.length (rdL (rowAt (List.map encF a) i) 4)) : Int))]
 [] =
 some
 (goB
 (U.domW (rdL (rowAt (List.map encF a) i) 4)
 (Int.tmod (IntKind.wrap IntKind.i64 u)
 (↑(List.length (rdL (rowAt (List.map encF a) i) 4)) : Int))
 (Int.tmod (IntKind.wrap IntKind.i64 v)
 (↑(List.length (rdL (rowAt (List.map encF a) i) 4)) : Int))),
 [], []) ∧
 TB
 (!U.domW (rdL (rowAt (List.map encF a) i) 4)
 (Int.tmod (IntKind.wrap IntKind.i64 u)
 (↑(List.length (rdL (rowAt (List.map encF a) i) 4)) : Int))
 (Int.tmod (IntKind.wrap IntKind.i64 v)
 (↑(List.length (rdL (rowAt (List.map encF a) i) 4)) : Int)))
 (Wf Try.prog H 31
 [AV.agg
 [AV.sl (rdL (rowAt (List.map encF a) i) 0),
 AV.sl (rdL (rowAt (List.map encF a) i) 1),
 goI (rdI (rowAt (List.map encF a) i) 2),
 goI (rdI (rowAt (List.map encF a) i) 3),
 AV.sl (rdL (rowAt (List.map encF a) i) 4)],
 goI
 (Int.tmod (IntKind.wrap IntKind.i64 v)
 (↑(List.length (rdL (rowAt (List.map encF a) i) 4)) : Int)),
 goI
 (Int.tmod (IntKind.wrap IntKind.i64 u)
 (↑(List.length (rdL (rowAt (List.map encF a) i) 4)) : Int))]
 [] =
 some
 (goB
 (U.domW (rdL (rowAt (List.map encF a) i) 4)
 (Int.tmod (IntKind.wrap IntKind.i64 v)
 (↑(List.length (rdL (rowAt (List.map encF a) i) 4)) : Int))
 (Int.tmod (IntKind.wrap IntKind.i64 u)
 (↑(List.length (rdL (rowAt (List.map encF a) i) 4)) : Int))),
 [], []) ∧
 TB
 (!U.domW (rdL (rowAt (List.map encF a) i) 4)
 (Int.tmod (IntKind.wrap IntKind.i64 v)
 (↑(List.length (rdL (rowAt (List.map encF a) i) 4)) : Int))
 (Int.tmod (IntKind.wrap IntKind.i64 u)
 (↑(List.length (rdL (rowAt (List.map encF a) i) 4)) : Int)))
 ((Ex.ret, mkS 132 [(4, goB false)] [Row.dead, Row.dead, Row.dead]) = r)
 (Wf Try.prog H 32
 [AV.agg
 [AV.sl (rdL (rowAt (List.map encF a) i) 0),
 AV.sl (rdL (rowAt (List.map encF a) i) 1),
 goI (rdI (rowAt (List.map encF a) i) 2),
 goI (rdI (rowAt (List.map encF a) i) 3),
 AV.sl (rdL (rowAt (List.map encF a) i) 4)]]
 [] =
 some
 (AV.os 0 0 (List.length (rdL (rowAt (List.map encF a) i) 4)),
 [Row.arr 1
 (List.map encI (U.aboW (rdL (rowAt (List.map encF a) i) 4)))],
 []) ∧
 TB
 (!(↑(List.length
 (List.take (List.length (rdL (rowAt (List.map encF a) i) 4))
 (List.drop 0
 (List.map encI
 (U.aboW (rdL (rowAt (List.map encF a) i) 4)))))) :
 Int) ==
 (↑(List.length (rdL (rowAt (List.map encF a) i) 4)) : Int))
 ((Ex.ret, mkS 132 [(4, goB false)] [Row.dead, Row.dead, Row.dead]) = r)
 (LoopTo Try.prog H (H 8) 0 (loopOf Try.prog 8 19)
 (mkS 132
 [(2, AV.pt 0 0 0), (3, AV.pt 1 0 0), (5, goI (↑i : Int)),
 (6, AV.pt 2 0 0),
 (7,
 goI
 (↑(List.length (rdL (rowAt (List.map encF a) i) 4)) : Int)),
 (10,
 goI
 (Int.tmod (IntKind.wrap IntKind.i64 w)
 (↑(List.length (rdL (rowAt (List.map encF a) i) 4)) :
 Int))),
 (11,
 AV.sl
 (List.take (List.length (rdL (rowAt (List.map encF a) i) 4))
 (List.drop 0
 (List.map encI
 (U.aboW (rdL (rowAt (List.map encF a) i) 4)))))),
 (12,
 goI
 (Int.tmod (IntKind.wrap IntKind.i64 w)
 (↑(List.length (rdL (rowAt (List.map encF a) i) 4)) :
 Int))),
 (13, goI 0)]
 [Row.box [AV.sl (List.map encF a)],
 Row.box
 [AV.v (Value.int IntKind.u8 u), AV.v (Value.int IntKind.u8 v),
 AV.v (Value.int IntKind.u8 w)],
 Row.box
 [AV.sl (rdL (rowAt (List.map encF a) i) 0),
 AV.sl (rdL (rowAt (List.map encF a) i) 1),
 goI (rdI (rowAt (List.map encF a) i) 2),
 goI (rdI (rowAt (List.map encF a) i) 3),
 AV.sl (rdL (rowAt (List.map encF a) i) 4)]])
 (Ex.exit 2,
 mkS 132
 [(2, AV.pt 0 0 0), (3, AV.pt 1 0 0), (5, goI (↑i : Int)),
 (6, AV.pt 2 0 0), (10, goI c), (12, goI x)]
 [Row.box [AV.sl (List.map encF a)],
 Row.box
 [AV.v (Value.int IntKind.u8 u),
 AV.v (Value.int IntKind.u8 v),
 AV.v (Value.int IntKind.u8 w)],
 Row.box
 [AV.sl (rdL (rowAt (List.map encF a) i) 0),
 AV.sl (rdL (rowAt (List.map encF a) i) 1),
 goI (rdI (rowAt (List.map encF a) i) 2),
 goI (rdI (rowAt (List.map encF a) i) 3),
 AV.sl (rdL (rowAt (List.map encF a) i) 4)]]) ∧
 Wf Try.prog H 31
 [AV.agg
 [AV.sl (rdL (rowAt (List.map encF a) i) 0),
 AV.sl (rdL (rowAt (List.map encF a) i) 1),
 goI (rdI (rowAt (List.map encF a) i) 2),
 goI (rdI (rowAt (List.map encF a) i) 3),
 AV.sl (rdL (rowAt (List.map encF a) i) 4)],
 goI c, goI c]
 [] =
 some
 (goB (U.domW (rdL (rowAt (List.map encF a) i) 4) c c), [], []) ∧
 TB (U.domW (rdL (rowAt (List.map encF a) i) 4) c c)
 (TB (!x == 0)
 ((Ex.ret,
 mkS 132 [(4, goB false)] [Row.dead, Row.dead, Row.dead]) =
 r)
 (LoopTo Try.prog H (H 8) 0 (loopOf Try.prog 8 6)
 (mkS 132
 [(2, AV.pt 0 0 0), (3, AV.pt 1 0 0),
 (5, goI (IntKind.wrap IntKind.i64 ((↑i : Int) + 1)))]
 [Row.box [AV.sl (List.map encF a)],
 Row.box
 [AV.v (Value.int IntKind.u8 u),
 AV.v (Value.int IntKind.u8 v),
 AV.v (Value.int IntKind.u8 w)],
 Row.dead])
 r))
 (LoopTo Try.prog H (H 8) 0 (loopOf Try.prog 8 6)
 (mkS 132
 [(2, AV.pt 0 0 0), (3, AV.pt 1 0 0),
 (5, goI (IntKind.wrap IntKind.i64 ((↑i : Int) + 1)))]
 [Row.box [AV.sl (List.map encF a)],
 Row.box
 [AV.v (Value.int IntKind.u8 u),
 AV.v (Value.int IntKind.u8 v),
 AV.v (Value.int IntKind.u8 w)],
 Row.dead])
 r))))
 (Wf Try.prog H 32
 [AV.agg
 [AV.sl (rdL (rowAt (List.map encF a) i) 0),
 AV.sl (rdL (rowAt (List.map encF a) i) 1),
 goI (rdI (rowAt (List.map encF a) i) 2),
 goI (rdI (rowAt (List.map encF a) i) 3),
 AV.sl (rdL (rowAt (List.map encF a) i) 4)]]
 [] =
 some
 (AV.os 0 0 (List.length (rdL (rowAt (List.map encF a) i) 4)),
 [Row.arr 1
 (List.map encI (U.aboW (rdL (rowAt (List.map encF a) i) 4)))],
 []) ∧
 TB
 (!(↑(List.length
 (List.take (List.length (rdL (rowAt (List.map encF a) i) 4))
 (List.drop 0
 (List.map encI
 (U.aboW (rdL (rowAt (List.map encF a) i) 4)))))) :
 Int) ==
 (↑(List.length (rdL (rowAt (List.map encF a) i) 4)) : Int))
 ((Ex.ret, mkS 132 [(4, goB false)] [Row.dead, Row.dead, Row.dead]) = r)
 (LoopTo Try.prog H (H 8) 0 (loopOf Try.prog 8 19)
 (mkS 132
 [(2, AV.pt 0 0 0), (3, AV.pt 1 0 0), (5, goI (↑i : Int)),
 (6, AV.pt 2 0 0),
 (7, goI (↑(List.length (rdL (rowAt (List.map encF a) i) 4)) : Int)),
 (10,
 goI
 (Int.tmod (IntKind.wrap IntKind.i64 w)
 (↑(List.length (rdL (rowAt (List.map encF a) i) 4)) : Int))),
 (11,
 AV.sl
 (List.take (List.length (rdL (rowAt (List.map encF a) i) 4))
 (List.drop 0
 (List.map encI
 (U.aboW (rdL (rowAt (List.map encF a) i) 4)))))),
 (12,
 goI
 (Int.tmod (IntKind.wrap IntKind.i64 w)
 (↑(List.length (rdL (rowAt (List.map encF a) i) 4)) : Int))),
 (13, goI 0)]
 [Row.box [AV.sl (List.map encF a)],
 Row.box
 [AV.v (Value.int IntKind.u8 u), AV.v (Value.int IntKind.u8 v),
 AV.v (Value.int IntKind.u8 w)],
 Row.box
 [AV.sl (rdL (rowAt (List.map encF a) i) 0),
 AV.sl (rdL (rowAt (List.map encF a) i) 1),
 goI (rdI (rowAt (List.map encF a) i) 2),
 goI (rdI (rowAt (List.map encF a) i) 3),
 AV.sl (rdL (rowAt (List.map encF a) i) 4)]])
 (Ex.exit 2,
 mkS 132
 [(2, AV.pt 0 0 0), (3, AV.pt 1 0 0), (5, goI (↑i : Int)),
 (6, AV.pt 2 0 0), (10, goI c), (12, goI x)]
 [Row.box [AV.sl (List.map encF a)],
 Row.box
 [AV.v (Value.int IntKind.u8 u), AV.v (Value.int IntKind.u8 v),
 AV.v (Value.int IntKind.u8 w)],
 Row.box
 [AV.sl (rdL (rowAt (List.map encF a) i) 0),
 AV.sl (rdL (rowAt (List.map encF a) i) 1),
 goI (rdI (rowAt (List.map encF a) i) 2),
 goI (rdI (rowAt (List.map encF a) i) 3),
 AV.sl (rdL (rowAt (List.map encF a) i) 4)]]) ∧
 Wf Try.prog H 31
 [AV.agg
 [AV.sl (rdL (rowAt (List.map encF a) i) 0),
 AV.sl (rdL (rowAt (List.map encF a) i) 1),
 goI (rdI (rowAt (List.map encF a) i) 2),
 goI (rdI (rowAt (List.map encF a) i) 3),
 AV.sl (rdL (rowAt (List.map encF a) i) 4)],
 goI c, goI c]
 [] =
 some (goB (U.domW (rdL (rowAt (List.map encF a) i) 4) c c), [], []) ∧
 TB (U.domW (rdL (rowAt (List.map encF a) i) 4) c c)
 (TB (!x == 0)
 ((Ex.ret, mkS 132 [(4, goB false)] [Row.dead, Row.dead, Row.dead]) =
 r)
 (LoopTo Try.prog H (H 8) 0 (loopOf Try.prog 8 6)
 (mkS 132
 [(2, AV.pt 0 0 0), (3, AV.pt 1 0 0),
 (5, goI (IntKind.wrap IntKind.i64 ((↑i : Int) + 1)))]
 [Row.box [AV.sl (List.map encF a)],
 Row.box
 [AV.v (Value.int IntKind.u8 u),
 AV.v (Value.int IntKind.u8 v),
 AV.v (Value.int IntKind.u8 w)],
 Row.dead])
 r))
 (LoopTo Try.prog H (H 8) 0 (loopOf Try.prog 8 6)
 (mkS 132
 [(2, AV.pt 0 0 0), (3, AV.pt 1 0 0),
 (5, goI (IntKind.wrap IntKind.i64 ((↑i : Int) + 1)))]
 [Row.box [AV.sl (List.map encF a)],
 Row.box
 [AV.v (Value.int IntKind.u8 u), AV.v (Value.int IntKind.u8 v),
 AV.v (Value.int IntKind.u8 w)],
 Row.dead])
 r))))
 (Wf Try.prog H 32
 [AV.agg
 [AV.sl (rdL (rowAt (List.map encF a) i) 0),
 AV.sl (rdL (rowAt (List.map encF a) i) 1),
 goI (rdI (rowAt (List.map encF a) i) 2),
 goI (rdI (rowAt (List.map encF a) i) 3),
 AV.sl (rdL (rowAt (List.map encF a) i) 4)]]
 [] =
 some
 (AV.os 0 0 (List.length (rdL (rowAt (List.map encF a) i) 4)),
 [Row.arr 1 (List.map encI (U.aboW (rdL (rowAt (List.map encF a) i) 4)))],
 []) ∧
 TB
 (!(↑(List.length
 (List.take (List.length (rdL (rowAt (List.map encF a) i) 4))
 (List.drop 0
 (List.map encI (U.aboW (rdL (rowAt (List.map encF a) i) 4)))))) :
 Int) ==
 (↑(List.length (rdL (rowAt (List.map encF a) i) 4)) : Int))
 ((Ex.ret, mkS 132 [(4, goB false)] [Row.dead, Row.dead, Row.dead]) = r)
 (LoopTo Try.prog H (H 8) 0 (loopOf Try.prog 8 19)
 (mkS 132
 [(2, AV.pt 0 0 0), (3, AV.pt 1 0 0), (5, goI (↑i : Int)),
 (6, AV.pt 2 0 0),
 (7, goI (↑(List.length (rdL (rowAt (List.map encF a) i) 4)) : Int)),
 (10,
 goI
 (Int.tmod (IntKind.wrap IntKind.i64 w)
 (↑(List.length (rdL (rowAt (List.map encF a) i) 4)) : Int))),
 (11,
 AV.sl
 (List.take (List.length (rdL (rowAt (List.map encF a) i) 4))
 (List.drop 0
 (List.map encI (U.aboW (rdL (rowAt (List.map encF a) i) 4)))))),
 (12,
 goI
 (Int.tmod (IntKind.wrap IntKind.i64 w)
 (↑(List.length (rdL (rowAt (List.map encF a) i) 4)) : Int))),
 (13, goI 0)]
 [Row.box [AV.sl (List.map encF a)],
 Row.box
 [AV.v (Value.int IntKind.u8 u), AV.v (Value.int IntKind.u8 v),
 AV.v (Value.int IntKind.u8 w)],
 Row.box
 [AV.sl (rdL (rowAt (List.map encF a) i) 0),
 AV.sl (rdL (rowAt (List.map encF a) i) 1),
 goI (rdI (rowAt (List.map encF a) i) 2),
 goI (rdI (rowAt (List.map encF a) i) 3),
 AV.sl (rdL (rowAt (List.map encF a) i) 4)]])
 (Ex.exit 2,
 mkS 132
 [(2, AV.pt 0 0 0), (3, AV.pt 1 0 0), (5, goI (↑i : Int)),
 (6, AV.pt 2 0 0), (10, goI c), (12, goI x)]
 [Row.box [AV.sl (List.map encF a)],
 Row.box
 [AV.v (Value.int IntKind.u8 u), AV.v (Value.int IntKind.u8 v),
 AV.v (Value.int IntKind.u8 w)],
 Row.box
 [AV.sl (rdL (rowAt (List.map encF a) i) 0),
 AV.sl (rdL (rowAt (List.map encF a) i) 1),
 goI (rdI (rowAt (List.map encF a) i) 2),
 goI (rdI (rowAt (List.map encF a) i) 3),
 AV.sl (rdL (rowAt (List.map encF a) i) 4)]]) ∧
 Wf Try.prog H 31
 [AV.agg
 [AV.sl (rdL (rowAt (List.map encF a) i) 0),
 AV.sl (rdL (rowAt (List.map encF a) i) 1),
 goI (rdI (rowAt (List.map encF a) i) 2),
 goI (rdI (rowAt (List.map encF a) i) 3),
 AV.sl (rdL (rowAt (List.map encF a) i) 4)],
 goI c, goI c]
 [] =
 some (goB (U.domW (rdL (rowAt (List.map encF a) i) 4) c c), [], []) ∧
 TB (U.domW (rdL (rowAt (List.map encF a) i) 4) c c)
 (TB (!x == 0)
 ((Ex.ret, mkS 132 [(4, goB false)] [Row.dead, Row.dead, Row.dead]) = r)
 (LoopTo Try.prog H (H 8) 0 (loopOf Try.prog 8 6)
 (mkS 132
 [(2, AV.pt 0 0 0), (3, AV.pt 1 0 0),
 (5, goI (IntKind.wrap IntKind.i64 ((↑i : Int) + 1)))]
 [Row.box [AV.sl (List.map encF a)],
 Row.box
 [AV.v (Value.int IntKind.u8 u), AV.v (Value.int IntKind.u8 v),
 AV.v (Value.int IntKind.u8 w)],
 Row.dead])
 r))
 (LoopTo Try.prog H (H 8) 0 (loopOf Try.prog 8 6)
 (mkS 132
 [(2, AV.pt 0 0 0), (3, AV.pt 1 0 0),
 (5, goI (IntKind.wrap IntKind.i64 ((↑i : Int) + 1)))]
 [Row.box [AV.sl (List.map encF a)],
 Row.box
 [AV.v (Value.int IntKind.u8 u), AV.v (Value.int IntKind.u8 v),
 AV.v (Value.int IntKind.u8 w)],
 Row.dead])
 r))))
 (Wf Try.prog H 32
 [AV.agg
 [AV.sl (rdL (rowAt (List.map encF a) i) 0),
 AV.sl (rdL (rowAt (List.map encF a) i) 1),
 goI (rdI (rowAt (List.map encF a) i) 2),
 goI (rdI (rowAt (List.map encF a) i) 3),
 AV.sl (rdL (rowAt (List.map encF a) i) 4)]]
 [] =
 some
 (AV.os 0 0 (List.length (rdL (rowAt (List.map encF a) i) 4)),
 [Row.arr 1 (List.map encI (U.aboW (rdL (rowAt (List.map encF a) i) 4)))], []) ∧
 TB
 (!(↑(List.length
 (List.take (List.length (rdL (rowAt (List.map encF a) i) 4))
 (List.drop 0
 (List.map encI (U.aboW (rdL (rowAt (List.map encF a) i) 4)))))) :
 Int) ==
 (↑(List.length (rdL (rowAt (List.map encF a) i) 4)) : Int))
 ((Ex.ret, mkS 132 [(4, goB false)] [Row.dead, Row.dead, Row.dead]) = r)
 (LoopTo Try.prog H (H 8) 0 (loopOf Try.prog 8 19)
 (mkS 132
 [(2, AV.pt 0 0 0), (3, AV.pt 1 0 0), (5, goI (↑i : Int)), (6, AV.pt 2 0 0),
 (7, goI (↑(List.length (rdL (rowAt (List.map encF a) i) 4)) : Int)),
 (10,
 goI
 (Int.tmod (IntKind.wrap IntKind.i64 w)
 (↑(List.length (rdL (rowAt (List.map encF a) i) 4)) : Int))),
 (11,
 AV.sl
 (List.take (List.length (rdL (rowAt (List.map encF a) i) 4))
 (List.drop 0
 (List.map encI (U.aboW (rdL (rowAt (List.map encF a) i) 4)))))),
 (12,
 goI
 (Int.tmod (IntKind.wrap IntKind.i64 w)
 (↑(List.length (rdL (rowAt (List.map encF a) i) 4)) : Int))),
 (13, goI 0)]
 [Row.box [AV.sl (List.map encF a)],
 Row.box
 [AV.v (Value.int IntKind.u8 u), AV.v (Value.int IntKind.u8 v),
 AV.v (Value.int IntKind.u8 w)],
 Row.box
 [AV.sl (rdL (rowAt (List.map encF a) i) 0),
 AV.sl (rdL (rowAt (List.map encF a) i) 1),
 goI (rdI (rowAt (List.map encF a) i) 2),
 goI (rdI (rowAt (List.map encF a) i) 3),
 AV.sl (rdL (rowAt (List.map encF a) i) 4)]])
 (Ex.exit 2,
 mkS 132
 [(2, AV.pt 0 0 0), (3, AV.pt 1 0 0), (5, goI (↑i : Int)), (6, AV.pt 2 0 0),
 (10, goI c), (12, goI x)]
 [Row.box [AV.sl (List.map encF a)],
 Row.box
 [AV.v (Value.int IntKind.u8 u), AV.v (Value.int IntKind.u8 v),
 AV.v (Value.int IntKind.u8 w)],
 Row.box
 [AV.sl (rdL (rowAt (List.map encF a) i) 0),
 AV.sl (rdL (rowAt (List.map encF a) i) 1),
 goI (rdI (rowAt (List.map encF a) i) 2),
 goI (rdI (rowAt (List.map encF a) i) 3),
 AV.sl (rdL (rowAt (List.map encF a) i) 4)]]) ∧
 Wf Try.prog H 31
 [AV.agg
 [AV.sl (rdL (rowAt (List.map encF a) i) 0),
 AV.sl (rdL (rowAt (List.map encF a) i) 1),
 goI (rdI (rowAt (List.map encF a) i) 2),
 goI (rdI (rowAt (List.map encF a) i) 3),
 AV.sl (rdL (rowAt (List.map encF a) i) 4)],
 goI c, goI c]
 [] =
 some (goB (U.domW (rdL (rowAt (List.map encF a) i) 4) c c), [], []) ∧
 TB (U.domW (rdL (rowAt (List.map encF a) i) 4) c c)
 (TB (!x == 0)
 ((Ex.ret, mkS 132 [(4, goB false)] [Row.dead, Row.dead, Row.dead]) = r)
 (LoopTo Try.prog H (H 8) 0 (loopOf Try.prog 8 6)
 (mkS 132
 [(2, AV.pt 0 0 0), (3, AV.pt 1 0 0),
 (5, goI (IntKind.wrap IntKind.i64 ((↑i : Int) + 1)))]
 [Row.box [AV.sl (List.map encF a)],
 Row.box
 [AV.v (Value.int IntKind.u8 u), AV.v (Value.int IntKind.u8 v),
 AV.v (Value.int IntKind.u8 w)],
 Row.dead])
 r))
 (LoopTo Try.prog H (H 8) 0 (loopOf Try.prog 8 6)
 (mkS 132
 [(2, AV.pt 0 0 0), (3, AV.pt 1 0 0),
 (5, goI (IntKind.wrap IntKind.i64 ((↑i : Int) + 1)))]
 [Row.box [AV.sl (List.map encF a)],
 Row.box
 [AV.v (Value.int IntKind.u8 u), AV.v (Value.int IntKind.u8 v),
 AV.v (Value.int IntKind.u8 w)],
 Row.dead])
 r)))))
 (Wf Try.prog H 31
 [AV.agg
 [AV.sl (rdL (rowAt (List.map encF a) i) 0), AV.sl (rdL (rowAt (List.map encF a) i) 1),
 goI (rdI (rowAt (List.map encF a) i) 2), goI (rdI (rowAt (List.map encF a) i) 3),
 AV.sl (rdL (rowAt (List.map encF a) i) 4)],
 goI
 (Int.tmod (IntKind.wrap IntKind.i64 u)
 (↑(List.length (rdL (rowAt (List.map encF a) i) 4)) : Int)),
 goI
 (Int.tmod (IntKind.wrap IntKind.i64 w)
 (↑(List.length (rdL (rowAt (List.map encF a) i) 4)) : Int))]
 [] =
 some
 (goB
 (U.domW (rdL (rowAt (List.map encF a) i) 4)
 (Int.tmod (IntKind.wrap IntKind.i64 u)
 (↑(List.length (rdL (rowAt (List.map encF a) i) 4)) : Int))
 (Int.tmod (IntKind.wrap IntKind.i64 w)
 (↑(List.length (rdL (rowAt (List.map encF a) i) 4)) : Int))),
 [], []) ∧
 TB
 (U.domW (rdL (rowAt (List.map encF a) i) 4)
 (Int.tmod (IntKind.wrap IntKind.i64 u)
 (↑(List.length (rdL (rowAt (List.map encF a) i) 4)) : Int))
 (Int.tmod (IntKind.wrap IntKind.i64 w)
 (↑(List.length (rdL (rowAt (List.map encF a) i) 4)) : Int)))
 (Wf Try.prog H 31
 [AV.agg
 [AV.sl (rdL (rowAt (List.map encF a) i) 0),
 AV.sl (rdL (rowAt (List.map encF a) i) 1),
 goI (rdI (rowAt (List.map encF a) i) 2),
 goI (rdI (rowAt (List.map encF a) i) 3),
 AV.sl (rdL (rowAt (List.map encF a) i) 4)],
 goI
 (Int.tmod (IntKind.wrap IntKind.i64 v)
 (↑(List.length (rdL (rowAt (List.map encF a) i) 4)) : Int)),
 goI
 (Int.tmod (IntKind.wrap IntKind.i64 w)
 (↑(List.length (rdL (rowAt (List.map encF a) i) 4)) : Int))]
 [] =
 some
 (goB
 (U.domW (rdL (rowAt (List.map encF a) i) 4)
 (Int.tmod (IntKind.wrap IntKind.i64 v)
 (↑(List.length (rdL (rowAt (List.map encF a) i) 4)) : Int))
 (Int.tmod (IntKind.wrap IntKind.i64 w)
 (↑(List.length (rdL (rowAt (List.map encF a) i) 4)) : Int))),
 [], []) ∧
 TB
 (U.domW (rdL (rowAt (List.map encF a) i) 4)
 (Int.tmod (IntKind.wrap IntKind.i64 v)
 (↑(List.length (rdL (rowAt (List.map encF a) i) 4)) : Int))
 (Int.tmod (IntKind.wrap IntKind.i64 w)
 (↑(List.length (rdL (rowAt (List.map encF a) i) 4)) : Int)))
 (Wf Try.prog H 31
 [AV.agg
 [AV.sl (rdL (rowAt (List.map encF a) i) 0),
 AV.sl (rdL (rowAt (List.map encF a) i) 1),
 goI (rdI (rowAt (List.map encF a) i) 2),
 goI (rdI (rowAt (List.map encF a) i) 3),
 AV.sl (rdL (rowAt (List.map encF a) i) 4)],
 goI
 (Int.tmod (IntKind.wrap IntKind.i64 u)
 (↑(List.length (rdL (rowAt (List.map encF a) i) 4)) : Int)),
 goI
 (Int.tmod (IntKind.wrap IntKind.i64 v)
 (↑(List.length (rdL (rowAt (List.map encF a) i) 4)) : Int))]
 [] =
 some
 (goB
 (U.domW (rdL (rowAt (List.map encF a) i) 4)
 (Int.tmod (IntKind.wrap IntKind.i64 u)
 (↑(List.length (rdL (rowAt (List.map encF a) i) 4)) : Int))
 (Int.tmod (IntKind.wrap IntKind.i64 v)
 (↑(List.length (rdL (rowAt (List.map encF a) i) 4)) : Int))),
 [], []) ∧
 TB
 (!U.domW (rdL (rowAt (List.map encF a) i) 4)
 (Int.tmod (IntKind.wrap IntKind.i64 u)
 (↑(List.length (rdL (rowAt (List.map encF a) i) 4)) : Int))
 (Int.tmod (IntKind.wrap IntKind.i64 v)
 (↑(List.length (rdL (rowAt (List.map encF a) i) 4)) : Int)))
 (Wf Try.prog H 31
 [AV.agg
 [AV.sl (rdL (rowAt (List.map encF a) i) 0),
 AV.sl (rdL (rowAt (List.map encF a) i) 1),
 goI (rdI (rowAt (List.map encF a) i) 2),
 goI (rdI (rowAt (List.map encF a) i) 3),
 AV.sl (rdL (rowAt (List.map encF a) i) 4)],
 goI
 (Int.tmod (IntKind.wrap IntKind.i64 v)
 (↑(List.length (rdL (rowAt (List.map encF a) i) 4)) : Int)),
 goI
 (Int.tmod (IntKind.wrap IntKind.i64 u)
 (↑(List.length (rdL (rowAt (List.map encF a) i) 4)) : Int))]
 [] =
 some
 (goB
 (U.domW (rdL (rowAt (List.map encF a) i) 4)
 (Int.tmod (IntKind.wrap IntKind.i64 v)
 (↑(List.length (rdL (rowAt (List.map encF a) i) 4)) : Int))
 (Int.tmod (IntKind.wrap IntKind.i64 u)
 (↑(List.length (rdL (rowAt (List.map encF a) i) 4)) : Int))),
 [], []) ∧
 TB
 (!U.domW (rdL (rowAt (List.map encF a) i) 4)
 (Int.tmod (IntKind.wrap IntKind.i64 v)
 (↑(List.length (rdL (rowAt (List.map encF a) i) 4)) : Int))
 (Int.tmod (IntKind.wrap IntKind.i64 u)
 (↑(List.length (rdL (rowAt (List.map encF a) i) 4)) : Int)))
 ((Ex.ret, mkS 132 [(4, goB false)] [Row.dead, Row.dead, Row.dead]) = r)
 (Wf Try.prog H 32
 [AV.agg
 [AV.sl (rdL (rowAt (List.map encF a) i) 0),
 AV.sl (rdL (rowAt (List.map encF a) i) 1),
 goI (rdI (rowAt (List.map encF a) i) 2),
 goI (rdI (rowAt (List.map encF a) i) 3),
 AV.sl (rdL (rowAt (List.map encF a) i) 4)]]
 [] =
 some
 (AV.os 0 0 (List.length (rdL (rowAt (List.map encF a) i) 4)),
 [Row.arr 1
 (List.map encI (U.aboW (rdL (rowAt (List.map encF a) i) 4)))],
 []) ∧
 TB
 (!(↑(List.length
 (List.take (List.length (rdL (rowAt (List.map encF a) i) 4))
 (List.drop 0
 (List.map encI
 (U.aboW (rdL (rowAt (List.map encF a) i) 4)))))) :
 Int) ==
 (↑(List.length (rdL (rowAt (List.map encF a) i) 4)) : Int))
 ((Ex.ret, mkS 132 [(4, goB false)] [Row.dead, Row.dead, Row.dead]) = r)
 (LoopTo Try.prog H (H 8) 0 (loopOf Try.prog 8 19)
 (mkS 132
 [(2, AV.pt 0 0 0), (3, AV.pt 1 0 0), (5, goI (↑i : Int)),
 (6, AV.pt 2 0 0),
 (7, goI (↑(List.length (rdL (rowAt (List.map encF a) i) 4)) : Int)),
 (10,
 goI
 (Int.tmod (IntKind.wrap IntKind.i64 w)
 (↑(List.length (rdL (rowAt (List.map encF a) i) 4)) : Int))),
 (11,
 AV.sl
 (List.take (List.length (rdL (rowAt (List.map encF a) i) 4))
 (List.drop 0
 (List.map encI
 (U.aboW (rdL (rowAt (List.map encF a) i) 4)))))),
 (12,
 goI
 (Int.tmod (IntKind.wrap IntKind.i64 w)
 (↑(List.length (rdL (rowAt (List.map encF a) i) 4)) : Int))),
 (13, goI 0)]
 [Row.box [AV.sl (List.map encF a)],
 Row.box
 [AV.v (Value.int IntKind.u8 u), AV.v (Value.int IntKind.u8 v),
 AV.v (Value.int IntKind.u8 w)],
 Row.box
 [AV.sl (rdL (rowAt (List.map encF a) i) 0),
 AV.sl (rdL (rowAt (List.map encF a) i) 1),
 goI (rdI (rowAt (List.map encF a) i) 2),
 goI (rdI (rowAt (List.map encF a) i) 3),
 AV.sl (rdL (rowAt (List.map encF a) i) 4)]])
 (Ex.exit 2,
 mkS 132
 [(2, AV.pt 0 0 0), (3, AV.pt 1 0 0), (5, goI (↑i : Int)),
 (6, AV.pt 2 0 0), (10, goI c), (12, goI x)]
 [Row.box [AV.sl (List.map encF a)],
 Row.box
 [AV.v (Value.int IntKind.u8 u), AV.v (Value.int IntKind.u8 v),
 AV.v (Value.int IntKind.u8 w)],
 Row.box
 [AV.sl (rdL (rowAt (List.map encF a) i) 0),
 AV.sl (rdL (rowAt (List.map encF a) i) 1),
 goI (rdI (rowAt (List.map encF a) i) 2),
 goI (rdI (rowAt (List.map encF a) i) 3),
 AV.sl (rdL (rowAt (List.map encF a) i) 4)]]) ∧
 Wf Try.prog H 31
 [AV.agg
 [AV.sl (rdL (rowAt (List.map encF a) i) 0),
 AV.sl (rdL (rowAt (List.map encF a) i) 1),
 goI (rdI (rowAt (List.map encF a) i) 2),
 goI (rdI (rowAt (List.map encF a) i) 3),
 AV.sl (rdL (rowAt (List.map encF a) i) 4)],
 goI c, goI c]
 [] =
 some (goB (U.domW (rdL (rowAt (List.map encF a) i) 4) c c), [], []) ∧
 TB (U.domW (rdL (rowAt (List.map encF a) i) 4) c c)
 (TB (!x == 0)
 ((Ex.ret, mkS 132 [(4, goB false)] [Row.dead, Row.dead, Row.dead]) =
 r)
 (LoopTo Try.prog H (H 8) 0 (loopOf Try.prog 8 6)
 (mkS 132
 [(2, AV.pt 0 0 0), (3, AV.pt 1 0 0),
 (5, goI (IntKind.wrap IntKind.i64 ((↑i : Int) + 1)))]
 [Row.box [AV.sl (List.map encF a)],
 Row.box
 [AV.v (Value.int IntKind.u8 u),
 AV.v (Value.int IntKind.u8 v),
 AV.v (Value.int IntKind.u8 w)],
 Row.dead])
 r))
 (LoopTo Try.prog H (H 8) 0 (loopOf Try.prog 8 6)
 (mkS 132
 [(2, AV.pt 0 0 0), (3, AV.pt 1 0 0),
 (5, goI (IntKind.wrap IntKind.i64 ((↑i : Int) + 1)))]
 [Row.box [AV.sl (List.map encF a)],
 Row.box
 [AV.v (Value.int IntKind.u8 u), AV.v (Value.int IntKind.u8 v),
 AV.v (Value.int IntKind.u8 w)],
 Row.dead])
 r))))
 (Wf Try.prog H 32
 [AV.agg
 [AV.sl (rdL (rowAt (List.map encF a) i) 0),
 AV.sl (rdL (rowAt (List.map encF a) i) 1),
 goI (rdI (rowAt (List.map encF a) i) 2),
 goI (rdI (rowAt (List.map encF a) i) 3),
 AV.sl (rdL (rowAt (List.map encF a) i) 4)]]
 [] =
 some
 (AV.os 0 0 (List.length (rdL (rowAt (List.map encF a) i) 4)),
 [Row.arr 1 (List.map encI (U.aboW (rdL (rowAt (List.map encF a) i) 4)))],
 []) ∧
 TB
 (!(↑(List.length
 (List.take (List.length (rdL (rowAt (List.map encF a) i) 4))
 (List.drop 0
 (List.map encI (U.aboW (rdL (rowAt (List.map encF a) i) 4)))))) :
 Int) ==
 (↑(List.length (rdL (rowAt (List.map encF a) i) 4)) : Int))
 ((Ex.ret, mkS 132 [(4, goB false)] [Row.dead, Row.dead, Row.dead]) = r)
 (LoopTo Try.prog H (H 8) 0 (loopOf Try.prog 8 19)
 (mkS 132
 [(2, AV.pt 0 0 0), (3, AV.pt 1 0 0), (5, goI (↑i : Int)),
 (6, AV.pt 2 0 0),
 (7, goI (↑(List.length (rdL (rowAt (List.map encF a) i) 4)) : Int)),
 (10,
 goI
 (Int.tmod (IntKind.wrap IntKind.i64 w)
 (↑(List.length (rdL (rowAt (List.map encF a) i) 4)) : Int))),
 (11,
 AV.sl
 (List.take (List.length (rdL (rowAt (List.map encF a) i) 4))
 (List.drop 0
 (List.map encI (U.aboW (rdL (rowAt (List.map encF a) i) 4)))))),
 (12,
 goI
 (Int.tmod (IntKind.wrap IntKind.i64 w)
 (↑(List.length (rdL (rowAt (List.map encF a) i) 4)) : Int))),
 (13, goI 0)]
 [Row.box [AV.sl (List.map encF a)],
 Row.box
 [AV.v (Value.int IntKind.u8 u), AV.v (Value.int IntKind.u8 v),
 AV.v (Value.int IntKind.u8 w)],
 Row.box
 [AV.sl (rdL (rowAt (List.map encF a) i) 0),
 AV.sl (rdL (rowAt (List.map encF a) i) 1),
 goI (rdI (rowAt (List.map encF a) i) 2),
 goI (rdI (rowAt (List.map encF a) i) 3),
 AV.sl (rdL (rowAt (List.map encF a) i) 4)]])
 (Ex.exit 2,
 mkS 132
 [(2, AV.pt 0 0 0), (3, AV.pt 1 0 0), (5, goI (↑i : Int)),
 (6, AV.pt 2 0 0), (10, goI c), (12, goI x)]
 [Row.box [AV.sl (List.map encF a)],
 Row.box
 [AV.v (Value.int IntKind.u8 u), AV.v (Value.int IntKind.u8 v),
 AV.v (Value.int IntKind.u8 w)],
 Row.box
 [AV.sl (rdL (rowAt (List.map encF a) i) 0),
 AV.sl (rdL (rowAt (List.map encF a) i) 1),
 goI (rdI (rowAt (List.map encF a) i) 2),
 goI (rdI (rowAt (List.map encF a) i) 3),
 AV.sl (rdL (rowAt (List.map encF a) i) 4)]]) ∧
 Wf Try.prog H 31
 [AV.agg
 [AV.sl (rdL (rowAt (List.map encF a) i) 0),
 AV.sl (rdL (rowAt (List.map encF a) i) 1),
 goI (rdI (rowAt (List.map encF a) i) 2),
 goI (rdI (rowAt (List.map encF a) i) 3),
 AV.sl (rdL (rowAt (List.map encF a) i) 4)],
 goI c, goI c]
 [] =
 some (goB (U.domW (rdL (rowAt (List.map encF a) i) 4) c c), [], []) ∧
 TB (U.domW (rdL (rowAt (List.map encF a) i) 4) c c)
 (TB (!x == 0)
 ((Ex.ret, mkS 132 [(4, goB false)] [Row.dead, Row.dead, Row.dead]) = r)
 (LoopTo Try.prog H (H 8) 0 (loopOf Try.prog 8 6)
 (mkS 132
 [(2, AV.pt 0 0 0), (3, AV.pt 1 0 0),
 (5, goI (IntKind.wrap IntKind.i64 ((↑i : Int) + 1)))]
 [Row.box [AV.sl (List.map encF a)],
 Row.box
 [AV.v (Value.int IntKind.u8 u), AV.v (Value.int IntKind.u8 v),
 AV.v (Value.int IntKind.u8 w)],
 Row.dead])
 r))
 (LoopTo Try.prog H (H 8) 0 (loopOf Try.prog 8 6)
 (mkS 132
 [(2, AV.pt 0 0 0), (3, AV.pt 1 0 0),
 (5, goI (IntKind.wrap IntKind.i64 ((↑i : Int) + 1)))]
 [Row.box [AV.sl (List.map encF a)],
 Row.box
 [AV.v (Value.int IntKind.u8 u), AV.v (Value.int IntKind.u8 v),
 AV.v (Value.int IntKind.u8 w)],
 Row.dead])
 r))))
 (Wf Try.prog H 32
 [AV.agg
 [AV.sl (rdL (rowAt (List.map encF a) i) 0),
 AV.sl (rdL (rowAt (List.map encF a) i) 1),
 goI (rdI (rowAt (List.map encF a) i) 2),
 goI (rdI (rowAt (List.map encF a) i) 3),
 AV.sl (rdL (rowAt (List.map encF a) i) 4)]]
 [] =
 some
 (AV.os 0 0 (List.length (rdL (rowAt (List.map encF a) i) 4)),
 [Row.arr 1 (List.map encI (U.aboW (rdL (rowAt (List.map encF a) i) 4)))], []) ∧
 TB
 (!(↑(List.length
 (List.take (List.length (rdL (rowAt (List.map encF a) i) 4))
 (List.drop 0
 (List.map encI (U.aboW (rdL (rowAt (List.map encF a) i) 4)))))) :
 Int) ==
 (↑(List.length (rdL (rowAt (List.map encF a) i) 4)) : Int))
 ((Ex.ret, mkS 132 [(4, goB false)] [Row.dead, Row.dead, Row.dead]) = r)
 (LoopTo Try.prog H (H 8) 0 (loopOf Try.prog 8 19)
 (mkS 132
 [(2, AV.pt 0 0 0), (3, AV.pt 1 0 0), (5, goI (↑i : Int)), (6, AV.pt 2 0 0),
 (7, goI (↑(List.length (rdL (rowAt (List.map encF a) i) 4)) : Int)),
 (10,
 goI
 (Int.tmod (IntKind.wrap IntKind.i64 w)
 (↑(List.length (rdL (rowAt (List.map encF a) i) 4)) : Int))),
 (11,
 AV.sl
 (List.take (List.length (rdL (rowAt (List.map encF a) i) 4))
 (List.drop 0
 (List.map encI (U.aboW (rdL (rowAt (List.map encF a) i) 4)))))),
 (12,
 goI
 (Int.tmod (IntKind.wrap IntKind.i64 w)
 (↑(List.length (rdL (rowAt (List.map encF a) i) 4)) : Int))),
 (13, goI 0)]
 [Row.box [AV.sl (List.map encF a)],
 Row.box
 [AV.v (Value.int IntKind.u8 u), AV.v (Value.int IntKind.u8 v),
 AV.v (Value.int IntKind.u8 w)],
 Row.box
 [AV.sl (rdL (rowAt (List.map encF a) i) 0),
 AV.sl (rdL (rowAt (List.map encF a) i) 1),
 goI (rdI (rowAt (List.map encF a) i) 2),
 goI (rdI (rowAt (List.map encF a) i) 3),
 AV.sl (rdL (rowAt (List.map encF a) i) 4)]])
 (Ex.exit 2,
 mkS 132
 [(2, AV.pt 0 0 0), (3, AV.pt 1 0 0), (5, goI (↑i : Int)), (6, AV.pt 2 0 0),
 (10, goI c), (12, goI x)]
 [Row.box [AV.sl (List.map encF a)],
 Row.box
 [AV.v (Value.int IntKind.u8 u), AV.v (Value.int IntKind.u8 v),
 AV.v (Value.int IntKind.u8 w)],
 Row.box
 [AV.sl (rdL (rowAt (List.map encF a) i) 0),
 AV.sl (rdL (rowAt (List.map encF a) i) 1),
 goI (rdI (rowAt (List.map encF a) i) 2),
 goI (rdI (rowAt (List.map encF a) i) 3),
 AV.sl (rdL (rowAt (List.map encF a) i) 4)]]) ∧
 Wf Try.prog H 31
 [AV.agg
 [AV.sl (rdL (rowAt (List.map encF a) i) 0),
 AV.sl (rdL (rowAt (List.map encF a) i) 1),
 goI (rdI (rowAt (List.map encF a) i) 2),
 goI (rdI (rowAt (List.map encF a) i) 3),
 AV.sl (rdL (rowAt (List.map encF a) i) 4)],
 goI c, goI c]
 [] =
 some (goB (U.domW (rdL (rowAt (List.map encF a) i) 4) c c), [], []) ∧
 TB (U.domW (rdL (rowAt (List.map encF a) i) 4) c c)
 (TB (!x == 0)
 ((Ex.ret, mkS 132 [(4, goB false)] [Row.dead, Row.dead, Row.dead]) = r)
 (LoopTo Try.prog H (H 8) 0 (loopOf Try.prog 8 6)
 (mkS 132
 [(2, AV.pt 0 0 0), (3, AV.pt 1 0 0),
 (5, goI (IntKind.wrap IntKind.i64 ((↑i : Int) + 1)))]
 [Row.box [AV.sl (List.map encF a)],
 Row.box
 [AV.v (Value.int IntKind.u8 u), AV.v (Value.int IntKind.u8 v),
 AV.v (Value.int IntKind.u8 w)],
 Row.dead])
 r))
 (LoopTo Try.prog H (H 8) 0 (loopOf Try.prog 8 6)
 (mkS 132
 [(2, AV.pt 0 0 0), (3, AV.pt 1 0 0),
 (5, goI (IntKind.wrap IntKind.i64 ((↑i : Int) + 1)))]
 [Row.box [AV.sl (List.map encF a)],
 Row.box
 [AV.v (Value.int IntKind.u8 u), AV.v (Value.int IntKind.u8 v),
 AV.v (Value.int IntKind.u8 w)],
 Row.dead])
 r))))
 (Wf Try.prog H 32
 [AV.agg
 [AV.sl (rdL (rowAt (List.map encF a) i) 0),
 AV.sl (rdL (rowAt (List.map encF a) i) 1),
 goI (rdI (rowAt (List.map encF a) i) 2),
 goI (rdI (rowAt (List.map encF a) i) 3),
 AV.sl (rdL (rowAt (List.map encF a) i) 4)]]
 [] =
 some
 (AV.os 0 0 (List.length (rdL (rowAt (List.map encF a) i) 4)),
 [Row.arr 1 (List.map encI (U.aboW (rdL (rowAt (List.map encF a) i) 4)))], []) ∧
 TB
 (!(↑(List.length
 (List.take (List.length (rdL (rowAt (List.map encF a) i) 4))
 (List.drop 0
 (List.map encI (U.aboW (rdL (rowAt (List.map encF a) i) 4)))))) :
 Int) ==
 (↑(List.length (rdL (rowAt (List.map encF a) i) 4)) : Int))
 ((Ex.ret, mkS 132 [(4, goB false)] [Row.dead, Row.dead, Row.dead]) = r)
 (LoopTo Try.prog H (H 8) 0 (loopOf Try.prog 8 19)
 (mkS 132
 [(2, AV.pt 0 0 0), (3, AV.pt 1 0 0), (5, goI (↑i : Int)), (6, AV.pt 2 0 0),
 (7, goI (↑(List.length (rdL (rowAt (List.map encF a) i) 4)) : Int)),
 (10,
 goI
 (Int.tmod (IntKind.wrap IntKind.i64 w)
 (↑(List.length (rdL (rowAt (List.map encF a) i) 4)) : Int))),
 (11,
 AV.sl
 (List.take (List.length (rdL (rowAt (List.map encF a) i) 4))
 (List.drop 0
 (List.map encI (U.aboW (rdL (rowAt (List.map encF a) i) 4)))))),
 (12,
 goI
 (Int.tmod (IntKind.wrap IntKind.i64 w)
 (↑(List.length (rdL (rowAt (List.map encF a) i) 4)) : Int))),
 (13, goI 0)]
 [Row.box [AV.sl (List.map encF a)],
 Row.box
 [AV.v (Value.int IntKind.u8 u), AV.v (Value.int IntKind.u8 v),
 AV.v (Value.int IntKind.u8 w)],
 Row.box
 [AV.sl (rdL (rowAt (List.map encF a) i) 0),
 AV.sl (rdL (rowAt (List.map encF a) i) 1),
 goI (rdI (rowAt (List.map encF a) i) 2),
 goI (rdI (rowAt (List.map encF a) i) 3),
 AV.sl (rdL (rowAt (List.map encF a) i) 4)]])
 (Ex.exit 2,
 mkS 132
 [(2, AV.pt 0 0 0), (3, AV.pt 1 0 0), (5, goI (↑i : Int)), (6, AV.pt 2 0 0),
 (10, goI c), (12, goI x)]
 [Row.box [AV.sl (List.map encF a)],
 Row.box
 [AV.v (Value.int IntKind.u8 u), AV.v (Value.int IntKind.u8 v),
 AV.v (Value.int IntKind.u8 w)],
 Row.box
 [AV.sl (rdL (rowAt (List.map encF a) i) 0),
 AV.sl (rdL (rowAt (List.map encF a) i) 1),
 goI (rdI (rowAt (List.map encF a) i) 2),
 goI (rdI (rowAt (List.map encF a) i) 3),
 AV.sl (rdL (rowAt (List.map encF a) i) 4)]]) ∧
 Wf Try.prog H 31
 [AV.agg
 [AV.sl (rdL (rowAt (List.map encF a) i) 0),
 AV.sl (rdL (rowAt (List.map encF a) i) 1),
 goI (rdI (rowAt (List.map encF a) i) 2),
 goI (rdI (rowAt (List.map encF a) i) 3),
 AV.sl (rdL (rowAt (List.map encF a) i) 4)],
 goI c, goI c]
 [] =
 some (goB (U.domW (rdL (rowAt (List.map encF a) i) 4) c c), [], []) ∧
 TB (U.domW (rdL (rowAt (List.map encF a) i) 4) c c)
 (TB (!x == 0)
 ((Ex.ret, mkS 132 [(4, goB false)] [Row.dead, Row.dead, Row.dead]) = r)
 (LoopTo Try.prog H (H 8) 0 (loopOf Try.prog 8 6)
 (mkS 132
 [(2, AV.pt 0 0 0), (3, AV.pt 1 0 0),
 (5, goI (IntKind.wrap IntKind.i64 ((↑i : Int) + 1)))]
 [Row.box [AV.sl (List.map encF a)],
 Row.box
 [AV.v (Value.int IntKind.u8 u), AV.v (Value.int IntKind.u8 v),
 AV.v (Value.int IntKind.u8 w)],
 Row.dead])
 r))
 (LoopTo Try.prog H (H 8) 0 (loopOf Try.prog 8 6)
 (mkS 132
 [(2, AV.pt 0 0 0), (3, AV.pt 1 0 0),
 (5, goI (IntKind.wrap IntKind.i64 ((↑i : Int) + 1)))]
 [Row.box [AV.sl (List.map encF a)],
 Row.box
 [AV.v (Value.int IntKind.u8 u), AV.v (Value.int IntKind.u8 v),
 AV.v (Value.int IntKind.u8 w)],
 Row.dead])
 r)))))
 (Wf Try.prog H 31
 [AV.agg
 [AV.sl (rdL (rowAt (List.map encF a) i) 0), AV.sl (rdL (rowAt (List.map encF a) i) 1),
 goI (rdI (rowAt (List.map encF a) i) 2), goI (rdI (rowAt (List.map encF a) i) 3),
 AV.sl (rdL (rowAt (List.map encF a) i) 4)],
 goI
 (Int.tmod (IntKind.wrap IntKind.i64 u)
 (↑(List.length (rdL (rowAt (List.map encF a) i) 4)) : Int)),
 goI
 (Int.tmod (IntKind.wrap IntKind.i64 w)
 (↑(List.length (rdL (rowAt (List.map encF a) i) 4)) : Int))]
 [] =
 some
 (goB
 (U.domW (rdL (rowAt (List.map encF a) i) 4)
 (Int.tmod (IntKind.wrap IntKind.i64 u)
 (↑(List.length (rdL (rowAt (List.map encF a) i) 4)) : Int))
 (Int.tmod (IntKind.wrap IntKind.i64 w)
 (↑(List.length (rdL (rowAt (List.map encF a) i) 4)) : Int))),
 [], []) ∧
 TB
 (U.domW (rdL (rowAt (List.map encF a) i) 4)
 (Int.tmod (IntKind.wrap IntKind.i64 u)
 (↑(List.length (rdL (rowAt (List.map encF a) i) 4)) : Int))
 (Int.tmod (IntKind.wrap IntKind.i64 w)
 (↑(List.length (rdL (rowAt (List.map encF a) i) 4)) : Int)))
 (Wf Try.prog H 31
 [AV.agg
 [AV.sl (rdL (rowAt (List.map encF a) i) 0), AV.sl (rdL (rowAt (List.map encF a) i) 1),
 goI (rdI (rowAt (List.map encF a) i) 2), goI (rdI (rowAt (List.map encF a) i) 3),
 AV.sl (rdL (rowAt (List.map encF a) i) 4)],
 goI
 (Int.tmod (IntKind.wrap IntKind.i64 v)
 (↑(List.length (rdL (rowAt (List.map encF a) i) 4)) : Int)),
 goI
 (Int.tmod (IntKind.wrap IntKind.i64 w)
 (↑(List.length (rdL (rowAt (List.map encF a) i) 4)) : Int))]
 [] =
 some
 (goB
 (U.domW (rdL (rowAt (List.map encF a) i) 4)
 (Int.tmod (IntKind.wrap IntKind.i64 v)
 (↑(List.length (rdL (rowAt (List.map encF a) i) 4)) : Int))
 (Int.tmod (IntKind.wrap IntKind.i64 w)
 (↑(List.length (rdL (rowAt (List.map encF a) i) 4)) : Int))),
 [], []) ∧
 TB
 (U.domW (rdL (rowAt (List.map encF a) i) 4)
 (Int.tmod (IntKind.wrap IntKind.i64 v)
 (↑(List.length (rdL (rowAt (List.map encF a) i) 4)) : Int))
 (Int.tmod (IntKind.wrap IntKind.i64 w)
 (↑(List.length (rdL (rowAt (List.map encF a) i) 4)) : Int)))
 (Wf Try.prog H 31
 [AV.agg
 [AV.sl (rdL (rowAt (List.map encF a) i) 0),
 AV.sl (rdL (rowAt (List.map encF a) i) 1),
 goI (rdI (rowAt (List.map encF a) i) 2),
 goI (rdI (rowAt (List.map encF a) i) 3),
 AV.sl (rdL (rowAt (List.map encF a) i) 4)],
 goI
 (Int.tmod (IntKind.wrap IntKind.i64 u)
 (↑(List.length (rdL (rowAt (List.map encF a) i) 4)) : Int)),
 goI
 (Int.tmod (IntKind.wrap IntKind.i64 v)
 (↑(List.length (rdL (rowAt (List.map encF a) i) 4)) : Int))]
 [] =
 some
 (goB
 (U.domW (rdL (rowAt (List.map encF a) i) 4)
 (Int.tmod (IntKind.wrap IntKind.i64 u)
 (↑(List.length (rdL (rowAt (List.map encF a) i) 4)) : Int))
 (Int.tmod (IntKind.wrap IntKind.i64 v)
 (↑(List.length (rdL (rowAt (List.map encF a) i) 4)) : Int))),
 [], []) ∧
 TB
 (!U.domW (rdL (rowAt (List.map encF a) i) 4)
 (Int.tmod (IntKind.wrap IntKind.i64 u)
 (↑(List.length (rdL (rowAt (List.map encF a) i) 4)) : Int))
 (Int.tmod (IntKind.wrap IntKind.i64 v)
 (↑(List.length (rdL (rowAt (List.map encF a) i) 4)) : Int)))
 (Wf Try.prog H 31
 [AV.agg
 [AV.sl (rdL (rowAt (List.map encF a) i) 0),
 AV.sl (rdL (rowAt (List.map encF a) i) 1),
 goI (rdI (rowAt (List.map encF a) i) 2),
 goI (rdI (rowAt (List.map encF a) i) 3),
 AV.sl (rdL (rowAt (List.map encF a) i) 4)],
 goI
 (Int.tmod (IntKind.wrap IntKind.i64 v)
 (↑(List.length (rdL (rowAt (List.map encF a) i) 4)) : Int)),
 goI
 (Int.tmod (IntKind.wrap IntKind.i64 u)
 (↑(List.length (rdL (rowAt (List.map encF a) i) 4)) : Int))]
 [] =
 some
 (goB
 (U.domW (rdL (rowAt (List.map encF a) i) 4)
 (Int.tmod (IntKind.wrap IntKind.i64 v)
 (↑(List.length (rdL (rowAt (List.map encF a) i) 4)) : Int))
 (Int.tmod (IntKind.wrap IntKind.i64 u)
 (↑(List.length (rdL (rowAt (List.map encF a) i) 4)) : Int))),
 [], []) ∧
 TB
 (!U.domW (rdL (rowAt (List.map encF a) i) 4)
 (Int.tmod (IntKind.wrap IntKind.i64 v)
 (↑(List.length (rdL (rowAt (List.map encF a) i) 4)) : Int))
 (Int.tmod (IntKind.wrap IntKind.i64 u)
 (↑(List.length (rdL (rowAt (List.map encF a) i) 4)) : Int)))
 ((Ex.ret, mkS 132 [(4, goB false)] [Row.dead, Row.dead, Row.dead]) = r)
 (Wf Try.prog H 32
 [AV.agg
 [AV.sl (rdL (rowAt (List.map encF a) i) 0),
 AV.sl (rdL (rowAt (List.map encF a) i) 1),
 goI (rdI (rowAt (List.map encF a) i) 2),
 goI (rdI (rowAt (List.map encF a) i) 3),
 AV.sl (rdL (rowAt (List.map encF a) i) 4)]]
 [] =
 some
 (AV.os 0 0 (List.length (rdL (rowAt (List.map encF a) i) 4)),
 [Row.arr 1 (List.map encI (U.aboW (rdL (rowAt (List.map encF a) i) 4)))],
 []) ∧
 TB
 (!(↑(List.length
 (List.take (List.length (rdL (rowAt (List.map encF a) i) 4))
 (List.drop 0
 (List.map encI (U.aboW (rdL (rowAt (List.map encF a) i) 4)))))) :
 Int) ==
 (↑(List.length (rdL (rowAt (List.map encF a) i) 4)) : Int))
 ((Ex.ret, mkS 132 [(4, goB false)] [Row.dead, Row.dead, Row.dead]) = r)
 (LoopTo Try.prog H (H 8) 0 (loopOf Try.prog 8 19)
 (mkS 132
 [(2, AV.pt 0 0 0), (3, AV.pt 1 0 0), (5, goI (↑i : Int)),
 (6, AV.pt 2 0 0),
 (7, goI (↑(List.length (rdL (rowAt (List.map encF a) i) 4)) : Int)),
 (10,
 goI
 (Int.tmod (IntKind.wrap IntKind.i64 w)
 (↑(List.length (rdL (rowAt (List.map encF a) i) 4)) : Int))),
 (11,
 AV.sl
 (List.take (List.length (rdL (rowAt (List.map encF a) i) 4))
 (List.drop 0
 (List.map encI (U.aboW (rdL (rowAt (List.map encF a) i) 4)))))),
 (12,
 goI
 (Int.tmod (IntKind.wrap IntKind.i64 w)
 (↑(List.length (rdL (rowAt (List.map encF a) i) 4)) : Int))),
 (13, goI 0)]
 [Row.box [AV.sl (List.map encF a)],
 Row.box
 [AV.v (Value.int IntKind.u8 u), AV.v (Value.int IntKind.u8 v),
 AV.v (Value.int IntKind.u8 w)],
 Row.box
 [AV.sl (rdL (rowAt (List.map encF a) i) 0),
 AV.sl (rdL (rowAt (List.map encF a) i) 1),
 goI (rdI (rowAt (List.map encF a) i) 2),
 goI (rdI (rowAt (List.map encF a) i) 3),
 AV.sl (rdL (rowAt (List.map encF a) i) 4)]])
 (Ex.exit 2,
 mkS 132
 [(2, AV.pt 0 0 0), (3, AV.pt 1 0 0), (5, goI (↑i : Int)),
 (6, AV.pt 2 0 0), (10, goI c), (12, goI x)]
 [Row.box [AV.sl (List.map encF a)],
 Row.box
 [AV.v (Value.int IntKind.u8 u), AV.v (Value.int IntKind.u8 v),
 AV.v (Value.int IntKind.u8 w)],
 Row.box
 [AV.sl (rdL (rowAt (List.map encF a) i) 0),
 AV.sl (rdL (rowAt (List.map encF a) i) 1),
 goI (rdI (rowAt (List.map encF a) i) 2),
 goI (rdI (rowAt (List.map encF a) i) 3),
 AV.sl (rdL (rowAt (List.map encF a) i) 4)]]) ∧
 Wf Try.prog H 31
 [AV.agg
 [AV.sl (rdL (rowAt (List.map encF a) i) 0),
 AV.sl (rdL (rowAt (List.map encF a) i) 1),
 goI (rdI (rowAt (List.map encF a) i) 2),
 goI (rdI (rowAt (List.map encF a) i) 3),
 AV.sl (rdL (rowAt (List.map encF a) i) 4)],
 goI c, goI c]
 [] =
 some (goB (U.domW (rdL (rowAt (List.map encF a) i) 4) c c), [], []) ∧
 TB (U.domW (rdL (rowAt (List.map encF a) i) 4) c c)
 (TB (!x == 0)
 ((Ex.ret, mkS 132 [(4, goB false)] [Row.dead, Row.dead, Row.dead]) = r)
 (LoopTo Try.prog H (H 8) 0 (loopOf Try.prog 8 6)
 (mkS 132
 [(2, AV.pt 0 0 0), (3, AV.pt 1 0 0),
 (5, goI (IntKind.wrap IntKind.i64 ((↑i : Int) + 1)))]
 [Row.box [AV.sl (List.map encF a)],
 Row.box
 [AV.v (Value.int IntKind.u8 u), AV.v (Value.int IntKind.u8 v),
 AV.v (Value.int IntKind.u8 w)],
 Row.dead])
 r))
 (LoopTo Try.prog H (H 8) 0 (loopOf Try.prog 8 6)
 (mkS 132
 [(2, AV.pt 0 0 0), (3, AV.pt 1 0 0),
 (5, goI (IntKind.wrap IntKind.i64 ((↑i : Int) + 1)))]
 [Row.box [AV.sl (List.map encF a)],
 Row.box
 [AV.v (Value.int IntKind.u8 u), AV.v (Value.int IntKind.u8 v),
 AV.v (Value.int IntKind.u8 w)],
 Row.dead])
 r))))
 (Wf Try.prog H 32
 [AV.agg
 [AV.sl (rdL (rowAt (List.map encF a) i) 0),
 AV.sl (rdL (rowAt (List.map encF a) i) 1),
 goI (rdI (rowAt (List.map encF a) i) 2),
 goI (rdI (rowAt (List.map encF a) i) 3),
 AV.sl (rdL (rowAt (List.map encF a) i) 4)]]
 [] =
 some
 (AV.os 0 0 (List.length (rdL (rowAt (List.map encF a) i) 4)),
 [Row.arr 1 (List.map encI (U.aboW (rdL (rowAt (List.map encF a) i) 4)))], []) ∧
 TB
 (!(↑(List.length
 (List.take (List.length (rdL (rowAt (List.map encF a) i) 4))
 (List.drop 0
 (List.map encI (U.aboW (rdL (rowAt (List.map encF a) i) 4)))))) :
 Int) ==
 (↑(List.length (rdL (rowAt (List.map encF a) i) 4)) : Int))
 ((Ex.ret, mkS 132 [(4, goB false)] [Row.dead, Row.dead, Row.dead]) = r)
 (LoopTo Try.prog H (H 8) 0 (loopOf Try.prog 8 19)
 (mkS 132
 [(2, AV.pt 0 0 0), (3, AV.pt 1 0 0), (5, goI (↑i : Int)), (6, AV.pt 2 0 0),
 (7, goI (↑(List.length (rdL (rowAt (List.map encF a) i) 4)) : Int)),
 (10,
 goI
 (Int.tmod (IntKind.wrap IntKind.i64 w)
 (↑(List.length (rdL (rowAt (List.map encF a) i) 4)) : Int))),
 (11,
 AV.sl
 (List.take (List.length (rdL (rowAt (List.map encF a) i) 4))
 (List.drop 0
 (List.map encI (U.aboW (rdL (rowAt (List.map encF a) i) 4)))))),
 (12,
 goI
 (Int.tmod (IntKind.wrap IntKind.i64 w)
 (↑(List.length (rdL (rowAt (List.map encF a) i) 4)) : Int))),
 (13, goI 0)]
 [Row.box [AV.sl (List.map encF a)],
 Row.box
 [AV.v (Value.int IntKind.u8 u), AV.v (Value.int IntKind.u8 v),
 AV.v (Value.int IntKind.u8 w)],
 Row.box
 [AV.sl (rdL (rowAt (List.map encF a) i) 0),
 AV.sl (rdL (rowAt (List.map encF a) i) 1),
 goI (rdI (rowAt (List.map encF a) i) 2),
 goI (rdI (rowAt (List.map encF a) i) 3),
 AV.sl (rdL (rowAt (List.map encF a) i) 4)]])
 (Ex.exit 2,
 mkS 132
 [(2, AV.pt 0 0 0), (3, AV.pt 1 0 0), (5, goI (↑i : Int)), (6, AV.pt 2 0 0),
 (10, goI c), (12, goI x)]
 [Row.box [AV.sl (List.map encF a)],
 Row.box
 [AV.v (Value.int IntKind.u8 u), AV.v (Value.int IntKind.u8 v),
 AV.v (Value.int IntKind.u8 w)],
 Row.box
 [AV.sl (rdL (rowAt (List.map encF a) i) 0),
 AV.sl (rdL (rowAt (List.map encF a) i) 1),
 goI (rdI (rowAt (List.map encF a) i) 2),
 goI (rdI (rowAt (List.map encF a) i) 3),
 AV.sl (rdL (rowAt (List.map encF a) i) 4)]]) ∧
 Wf Try.prog H 31
 [AV.agg
 [AV.sl (rdL (rowAt (List.map encF a) i) 0),
 AV.sl (rdL (rowAt (List.map encF a) i) 1),
 goI (rdI (rowAt (List.map encF a) i) 2),
 goI (rdI (rowAt (List.map encF a) i) 3),
 AV.sl (rdL (rowAt (List.map encF a) i) 4)],
 goI c, goI c]
 [] =
 some (goB (U.domW (rdL (rowAt (List.map encF a) i) 4) c c), [], []) ∧
 TB (U.domW (rdL (rowAt (List.map encF a) i) 4) c c)
 (TB (!x == 0)
 ((Ex.ret, mkS 132 [(4, goB false)] [Row.dead, Row.dead, Row.dead]) = r)
 (LoopTo Try.prog H (H 8) 0 (loopOf Try.prog 8 6)
 (mkS 132
 [(2, AV.pt 0 0 0), (3, AV.pt 1 0 0),
 (5, goI (IntKind.wrap IntKind.i64 ((↑i : Int) + 1)))]
 [Row.box [AV.sl (List.map encF a)],
 Row.box
 [AV.v (Value.int IntKind.u8 u), AV.v (Value.int IntKind.u8 v),
 AV.v (Value.int IntKind.u8 w)],
 Row.dead])
 r))
 (LoopTo Try.prog H (H 8) 0 (loopOf Try.prog 8 6)
 (mkS 132
 [(2, AV.pt 0 0 0), (3, AV.pt 1 0 0),
 (5, goI (IntKind.wrap IntKind.i64 ((↑i : Int) + 1)))]
 [Row.box [AV.sl (List.map encF a)],
 Row.box
 [AV.v (Value.int IntKind.u8 u), AV.v (Value.int IntKind.u8 v),
 AV.v (Value.int IntKind.u8 w)],
 Row.dead])
 r))))
 (Wf Try.prog H 32
 [AV.agg
 [AV.sl (rdL (rowAt (List.map encF a) i) 0),
 AV.sl (rdL (rowAt (List.map encF a) i) 1),
 goI (rdI (rowAt (List.map encF a) i) 2),
 goI (rdI (rowAt (List.map encF a) i) 3),
 AV.sl (rdL (rowAt (List.map encF a) i) 4)]]
 [] =
 some
 (AV.os 0 0 (List.length (rdL (rowAt (List.map encF a) i) 4)),
 [Row.arr 1 (List.map encI (U.aboW (rdL (rowAt (List.map encF a) i) 4)))], []) ∧
 TB
 (!(↑(List.length
 (List.take (List.length (rdL (rowAt (List.map encF a) i) 4))
 (List.drop 0
 (List.map encI (U.aboW (rdL (rowAt (List.map encF a) i) 4)))))) :
 Int) ==
 (↑(List.length (rdL (rowAt (List.map encF a) i) 4)) : Int))
 ((Ex.ret, mkS 132 [(4, goB false)] [Row.dead, Row.dead, Row.dead]) = r)
 (LoopTo Try.prog H (H 8) 0 (loopOf Try.prog 8 19)
 (mkS 132
 [(2, AV.pt 0 0 0), (3, AV.pt 1 0 0), (5, goI (↑i : Int)), (6, AV.pt 2 0 0),
 (7, goI (↑(List.length (rdL (rowAt (List.map encF a) i) 4)) : Int)),
 (10,
 goI
 (Int.tmod (IntKind.wrap IntKind.i64 w)
 (↑(List.length (rdL (rowAt (List.map encF a) i) 4)) : Int))),
 (11,
 AV.sl
 (List.take (List.length (rdL (rowAt (List.map encF a) i) 4))
 (List.drop 0
 (List.map encI (U.aboW (rdL (rowAt (List.map encF a) i) 4)))))),
 (12,
 goI
 (Int.tmod (IntKind.wrap IntKind.i64 w)
 (↑(List.length (rdL (rowAt (List.map encF a) i) 4)) : Int))),
 (13, goI 0)]
 [Row.box [AV.sl (List.map encF a)],
 Row.box
 [AV.v (Value.int IntKind.u8 u), AV.v (Value.int IntKind.u8 v),
 AV.v (Value.int IntKind.u8 w)],
 Row.box
 [AV.sl (rdL (rowAt (List.map encF a) i) 0),
 AV.sl (rdL (rowAt (List.map encF a) i) 1),
 goI (rdI (rowAt (List.map encF a) i) 2),
 goI (rdI (rowAt (List.map encF a) i) 3),
 AV.sl (rdL (rowAt (List.map encF a) i) 4)]])
 (Ex.exit 2,
 mkS 132
 [(2, AV.pt 0 0 0), (3, AV.pt 1 0 0), (5, goI (↑i : Int)), (6, AV.pt 2 0 0),
 (10, goI c), (12, goI x)]
 [Row.box [AV.sl (List.map encF a)],
 Row.box
 [AV.v (Value.int IntKind.u8 u), AV.v (Value.int IntKind.u8 v),
 AV.v (Value.int IntKind.u8 w)],
 Row.box
 [AV.sl (rdL (rowAt (List.map encF a) i) 0),
 AV.sl (rdL (rowAt (List.map encF a) i) 1),
 goI (rdI (rowAt (List.map encF a) i) 2),
 goI (rdI (rowAt (List.map encF a) i) 3),
 AV.sl (rdL (rowAt (List.map encF a) i) 4)]]) ∧
 Wf Try.prog H 31
 [AV.agg
 [AV.sl (rdL (rowAt (List.map encF a) i) 0),
 AV.sl (rdL (rowAt (List.map encF a) i) 1),
 goI (rdI (rowAt (List.map encF a) i) 2),
 goI (rdI (rowAt (List.map encF a) i) 3),
 AV.sl (rdL (rowAt (List.map encF a) i) 4)],
 goI c, goI c]
 [] =
 some (goB (U.domW (rdL (rowAt (List.map encF a) i) 4) c c), [], []) ∧
 TB (U.domW (rdL (rowAt (List.map encF a) i) 4) c c)
 (TB (!x == 0)
 ((Ex.ret, mkS 132 [(4, goB false)] [Row.dead, Row.dead, Row.dead]) = r)
 (LoopTo Try.prog H (H 8) 0 (loopOf Try.prog 8 6)
 (mkS 132
 [(2, AV.pt 0 0 0), (3, AV.pt 1 0 0),
 (5, goI (IntKind.wrap IntKind.i64 ((↑i : Int) + 1)))]
 [Row.box [AV.sl (List.map encF a)],
 Row.box
 [AV.v (Value.int IntKind.u8 u), AV.v (Value.int IntKind.u8 v),
 AV.v (Value.int IntKind.u8 w)],
 Row.dead])
 r))
 (LoopTo Try.prog H (H 8) 0 (loopOf Try.prog 8 6)
 (mkS 132
 [(2, AV.pt 0 0 0), (3, AV.pt 1 0 0),
 (5, goI (IntKind.wrap IntKind.i64 ((↑i : Int) + 1)))]
 [Row.box [AV.sl (List.map encF a)],
 Row.box
 [AV.v (Value.int IntKind.u8 u), AV.v (Value.int IntKind.u8 v),
 AV.v (Value.int IntKind.u8 w)],
 Row.dead])
 r))))
 (Wf Try.prog H 32
 [AV.agg
 [AV.sl (rdL (rowAt (List.map encF a) i) 0), AV.sl (rdL (rowAt (List.map encF a) i) 1),
 goI (rdI (rowAt (List.map encF a) i) 2), goI (rdI (rowAt (List.map encF a) i) 3),
 AV.sl (rdL (rowAt (List.map encF a) i) 4)]]
 [] =
 some
 (AV.os 0 0 (List.length (rdL (rowAt (List.map encF a) i) 4)),
 [Row.arr 1 (List.map encI (U.aboW (rdL (rowAt (List.map encF a) i) 4)))], []) ∧
 TB
 (!(↑(List.length
 (List.take (List.length (rdL (rowAt (List.map encF a) i) 4))
 (List.drop 0 (List.map encI (U.aboW (rdL (rowAt (List.map encF a) i) 4)))))) :
 Int) ==
 (↑(List.length (rdL (rowAt (List.map encF a) i) 4)) : Int))
 ((Ex.ret, mkS 132 [(4, goB false)] [Row.dead, Row.dead, Row.dead]) = r)
 (LoopTo Try.prog H (H 8) 0 (loopOf Try.prog 8 19)
 (mkS 132
 [(2, AV.pt 0 0 0), (3, AV.pt 1 0 0), (5, goI (↑i : Int)), (6, AV.pt 2 0 0),
 (7, goI (↑(List.length (rdL (rowAt (List.map encF a) i) 4)) : Int)),
 (10,
 goI
 (Int.tmod (IntKind.wrap IntKind.i64 w)
 (↑(List.length (rdL (rowAt (List.map encF a) i) 4)) : Int))),
 (11,
 AV.sl
 (List.take (List.length (rdL (rowAt (List.map encF a) i) 4))
 (List.drop 0 (List.map encI (U.aboW (rdL (rowAt (List.map encF a) i) 4)))))),
 (12,
 goI
 (Int.tmod (IntKind.wrap IntKind.i64 w)
 (↑(List.length (rdL (rowAt (List.map encF a) i) 4)) : Int))),
 (13, goI 0)]
 [Row.box [AV.sl (List.map encF a)],
 Row.box
 [AV.v (Value.int IntKind.u8 u), AV.v (Value.int IntKind.u8 v),
 AV.v (Value.int IntKind.u8 w)],
 Row.box
 [AV.sl (rdL (rowAt (List.map encF a) i) 0),
 AV.sl (rdL (rowAt (List.map encF a) i) 1),
 goI (rdI (rowAt (List.map encF a) i) 2),
 goI (rdI (rowAt (List.map encF a) i) 3),
 AV.sl (rdL (rowAt (List.map encF a) i) 4)]])
 (Ex.exit 2,
 mkS 132
 [(2, AV.pt 0 0 0), (3, AV.pt 1 0 0), (5, goI (↑i : Int)), (6, AV.pt 2 0 0),
 (10, goI c), (12, goI x)]
 [Row.box [AV.sl (List.map encF a)],
 Row.box
 [AV.v (Value.int IntKind.u8 u), AV.v (Value.int IntKind.u8 v),
 AV.v (Value.int IntKind.u8 w)],
 Row.box
 [AV.sl (rdL (rowAt (List.map encF a) i) 0),
 AV.sl (rdL (rowAt (List.map encF a) i) 1),
 goI (rdI (rowAt (List.map encF a) i) 2),
 goI (rdI (rowAt (List.map encF a) i) 3),
 AV.sl (rdL (rowAt (List.map encF a) i) 4)]]) ∧
 Wf Try.prog H 31
 [AV.agg
 [AV.sl (rdL (rowAt (List.map encF a) i) 0),
 AV.sl (rdL (rowAt (List.map encF a) i) 1),
 goI (rdI (rowAt (List.map encF a) i) 2),
 goI (rdI (rowAt (List.map encF a) i) 3),
 AV.sl (rdL (rowAt (List.map encF a) i) 4)],
 goI c, goI c]
 [] =
 some (goB (U.domW (rdL (rowAt (List.map encF a) i) 4) c c), [], []) ∧
 TB (U.domW (rdL (rowAt (List.map encF a) i) 4) c c)
 (TB (!x == 0) ((Ex.ret, mkS 132 [(4, goB false)] [Row.dead, Row.dead, Row.dead]) = r)
 (LoopTo Try.prog H (H 8) 0 (loopOf Try.prog 8 6)
 (mkS 132
 [(2, AV.pt 0 0 0), (3, AV.pt 1 0 0),
 (5, goI (IntKind.wrap IntKind.i64 ((↑i : Int) + 1)))]
 [Row.box [AV.sl (List.map encF a)],
 Row.box
 [AV.v (Value.int IntKind.u8 u), AV.v (Value.int IntKind.u8 v),
 AV.v (Value.int IntKind.u8 w)],
 Row.dead])
 r))
 (LoopTo Try.prog H (H 8) 0 (loopOf Try.prog 8 6)
 (mkS 132
 [(2, AV.pt 0 0 0), (3, AV.pt 1 0 0),
 (5, goI (IntKind.wrap IntKind.i64 ((↑i : Int) + 1)))]
 [Row.box [AV.sl (List.map encF a)],
 Row.box
 [AV.v (Value.int IntKind.u8 u), AV.v (Value.int IntKind.u8 v),
 AV.v (Value.int IntKind.u8 w)],
 Row.dead])
 r)))))
 ((Ex.exit 0, mkS 132 [] [Row.dead, Row.dead, Row.dead]) = r)) := by kernel_rfl
theorem tn8_19 (X : List (List AV)) (u : Int) (v : Int) (w : Int) (n : Int) (c : Int) (x : Int) (s : Int) (p : Int) (q : Int) (ks : List (List AV)) (bs : List (List AV)) (bl : List XB) (i : Nat) (l : List Int) (r : Ex × St) : (turnT Try.prog H (FN8 false) L0 false (H 8) 0 (loopOf Try.prog 8 19)
 (mkS 132
 [(2, AV.pt 0 0 0), (3, AV.pt 1 0 0), (5, goI (↑i : Int)), (6, AV.pt 2 0 0), (7, goI n), (10, goI c),
 (11, AV.sl (List.map encI l)), (12, goI x), (13, goI s)]
 [Row.box [AV.sl X], Row.box [u8 u, u8 v, u8 w],
 Row.box [AV.sl ks, AV.sl bs, goI p, goI q, AV.sl (List.map encB bl)]])
 r) = ((0 ≤ x ∧ (List.map encI l)[Int.toNat x]? = some [goI (rdI (rowAt (List.map encI l) (Int.toNat x)) 0)]) ∧
 TB (decide (rdI (rowAt (List.map encI l) (Int.toNat x)) 0 ≥ 0))
 ((0 ≤ x ∧ (List.map encI l)[Int.toNat x]? = some [goI (rdI (rowAt (List.map encI l) (Int.toNat x)) 0)]) ∧
 TB (decide (rdI (rowAt (List.map encI l) (Int.toNat x)) 0 ≥ n))
 ((Ex.ret, mkS 132 [(4, goB false)] [Row.dead, Row.dead, Row.dead]) = r)
 (TB (decide (IntKind.wrap IntKind.i64 (s + 1) > n))
 ((Ex.ret, mkS 132 [(4, goB false)] [Row.dead, Row.dead, Row.dead]) = r)
 (Wf Try.prog H 31
 [AV.agg [AV.sl ks, AV.sl bs, goI p, goI q, AV.sl (List.map encB bl)],
 goI (rdI (rowAt (List.map encI l) (Int.toNat x)) 0), goI c]
 [] =
 some (goB (U.domW (List.map encB bl) (rdI (rowAt (List.map encI l) (Int.toNat x)) 0) c), [], []) ∧
 TB (!U.domW (List.map encB bl) (rdI (rowAt (List.map encI l) (Int.toNat x)) 0) c)
 ((Ex.ret, mkS 132 [(4, goB false)] [Row.dead, Row.dead, Row.dead]) = r)
 (LoopTo Try.prog H (H 8) 0 (loopOf Try.prog 8 19)
 (mkS 132
 [(2, AV.pt 0 0 0), (3, AV.pt 1 0 0), (5, goI (↑i : Int)), (6, AV.pt 2 0 0), (7, goI n), (10, goI c),
 (11, AV.sl (List.map encI l)), (12, goI (rdI (rowAt (List.map encI l) (Int.toNat x)) 0)),
 (13, goI (IntKind.wrap IntKind.i64 (s + 1)))]
 [Row.box [AV.sl X],
 Row.box
 [AV.v (Value.int IntKind.u8 u), AV.v (Value.int IntKind.u8 v), AV.v (Value.int IntKind.u8 w)],
 Row.box [AV.sl ks, AV.sl bs, goI p, goI q, AV.sl (List.map encB bl)]])
 r))))
 ((Ex.exit 2,
 mkS 132 [(2, AV.pt 0 0 0), (3, AV.pt 1 0 0), (5, goI (↑i : Int)), (6, AV.pt 2 0 0), (10, goI c), (12, goI x)]
 [Row.box [AV.sl X],
 Row.box [AV.v (Value.int IntKind.u8 u), AV.v (Value.int IntKind.u8 v), AV.v (Value.int IntKind.u8 w)],
 Row.box [AV.sl ks, AV.sl bs, goI p, goI q, AV.sl (List.map encB bl)]]) =
 r)) := by kernel_rfl
theorem tn11 (a : List XF) (o : Bool) (r : AV × List Row × List Nat) : (runT Try.prog H (FN8 o) (fun id st => LT.is (Ex.exit 0) (mkS 90 [] [Row.dead, Row.dead, Row.dead])) false 11
 [AV.agg [AV.sl (List.map encF a)]] [] fun q => q = r) = (Wf Try.prog H 29 [] [] = some (goB true, [], []) ∧
 Wf Try.prog H 30 [AV.agg [AV.sl (List.map encF a)]] [] = some (goB o, [], []) ∧
 TB o ((goB true, [], []) = r)
 (LoopTo Try.prog H (H 11) 0 (loopOf Try.prog 11 6)
 (mkS 90 [(1, AV.pt 0 0 0), (3, goI 0)] [Row.box [AV.sl (List.map encF a)], Row.dead, Row.dead])
 (Ex.exit 0, mkS 90 [] [Row.dead, Row.dead, Row.dead]) ∧
 (goB true, [], []) = r)) := by kernel_rfl
theorem tn11_6 (a : List XF) (i : Nat) (n : Nat) (c : List Int) (r : Ex × St) : (turnT Try.prog H (FN8 false) (LN11 i n c 0) false (H 11) 0 (loopOf Try.prog 11 6)
 (mkS 90 [(1, AV.pt 0 0 0), (3, goI (↑i : Int))] [Row.box [AV.sl (List.map encF a)], Row.dead, Row.dead]) r) = (TB (decide ((↑i : Int) < (↑(List.length (List.map encF a)) : Int)))
 ((0 ≤ (↑i : Int) ∧
 (List.map encF a)[i]? =
 some
 [AV.sl (rdL (rowAt (List.map encF a) i) 0), AV.sl (rdL (rowAt (List.map encF a) i) 1),
 goI (rdI (rowAt (List.map encF a) i) 2), goI (rdI (rowAt (List.map encF a) i) 3),
 AV.sl (rdL (rowAt (List.map encF a) i) 4)]) ∧
 (0 ≤ (↑(List.length (rdL (rowAt (List.map encF a) i) 4)) : Int) ∧
 (↑(List.length (rdL (rowAt (List.map encF a) i) 4)) : Int) ≤
 (↑(List.length (rdL (rowAt (List.map encF a) i) 4)) : Int) ∧
 (↑(List.length (rdL (rowAt (List.map encF a) i) 4)) : Int) ≤ (↑1000000 : Int)) ∧
 LoopTo Try.prog H (H 11) 0 (loopOf Try.prog 11 11)
 (mkS 90
 [(1, AV.pt 0 0 0), (3, goI (↑i : Int)), (4, AV.pt 1 0 0),
 (5, AV.os 2 0 (List.length (List.replicate (List.length (rdL (rowAt (List.map encF a) i) 4)) [goI 0]))),
 (6, goI 0)]
 [Row.box [AV.sl (List.map encF a)],
 Row.box
 [AV.sl (rdL (rowAt (List.map encF a) i) 0), AV.sl (rdL (rowAt (List.map encF a) i) 1),
 goI (rdI (rowAt (List.map encF a) i) 2), goI (rdI (rowAt (List.map encF a) i) 3),
 AV.sl (rdL (rowAt (List.map encF a) i) 4)],
 Row.arr 1 (List.replicate (List.length (rdL (rowAt (List.map encF a) i) 4)) [goI 0])])
 (Ex.exit 2,
 mkS 90 [(1, AV.pt 0 0 0), (3, goI (↑i : Int)), (4, AV.pt 1 0 0), (5, AV.os 2 0 n)]
 [Row.box [AV.sl (List.map encF a)],
 Row.box
 [AV.sl (rdL (rowAt (List.map encF a) i) 0), AV.sl (rdL (rowAt (List.map encF a) i) 1),
 goI (rdI (rowAt (List.map encF a) i) 2), goI (rdI (rowAt (List.map encF a) i) 3),
 AV.sl (rdL (rowAt (List.map encF a) i) 4)],
 Row.arr 1 (List.map encI c)]) ∧
 LoopTo Try.prog H (H 11) 0 (loopOf Try.prog 11 21)
 (mkS 90 [(1, AV.pt 0 0 0), (3, goI (↑i : Int)), (4, AV.pt 1 0 0), (5, AV.os 2 0 n), (9, goI 0)]
 [Row.box [AV.sl (List.map encF a)],
 Row.box
 [AV.sl (rdL (rowAt (List.map encF a) i) 0), AV.sl (rdL (rowAt (List.map encF a) i) 1),
 goI (rdI (rowAt (List.map encF a) i) 2), goI (rdI (rowAt (List.map encF a) i) 3),
 AV.sl (rdL (rowAt (List.map encF a) i) 4)],
 Row.arr 1 (List.map encI c)])
 (Ex.exit 6,
 mkS 90 [(1, AV.pt 0 0 0), (3, goI (↑i : Int))] [Row.box [AV.sl (List.map encF a)], Row.dead, Row.dead]) ∧
 LoopTo Try.prog H (H 11) 0 (loopOf Try.prog 11 6)
 (mkS 90 [(1, AV.pt 0 0 0), (3, goI (IntKind.wrap IntKind.i64 ((↑i : Int) + 1)))]
 [Row.box [AV.sl (List.map encF a)], Row.dead, Row.dead])
 r)
 ((Ex.exit 0, mkS 90 [] [Row.dead, Row.dead, Row.dead]) = r)) := by kernel_rfl
theorem tn11_11 (X : List (List AV)) (p : Int) (q : Int) (ks : List (List AV)) (bs : List (List AV)) (bl : List XB) (i : Nat) (n : Nat) (b : Nat) (c : List Int) (c2 : List Int) (r : Ex × St) : (turnT Try.prog H (FN8 false) (LN11 i n c2 b) false (H 11) 0 (loopOf Try.prog 11 11)
 (mkS 90 [(1, AV.pt 0 0 0), (3, goI (↑i : Int)), (4, AV.pt 1 0 0), (5, AV.os 2 0 n), (6, goI (↑b : Int))]
 [Row.box [AV.sl X], Row.box [AV.sl ks, AV.sl bs, goI p, goI q, AV.sl (List.map encB bl)],
 Row.arr 1 (List.map encI c)])
 r) = (TB (decide ((↑b : Int) < (↑(List.length (List.map encB bl)) : Int)))
 (Wf Try.prog H 34 [AV.agg [AV.sl ks, AV.sl bs, goI p, goI q, AV.sl (List.map encB bl)], goI (↑b : Int)] [] =
 some
 (AV.os 0 0 (List.length (U.kidW (List.map encB bl) (↑b : Int))),
 [Row.arr 1 (List.map encI (U.kidW (List.map encB bl) (↑b : Int)))], []) ∧
 LoopTo Try.prog H (H 11) 0 (loopOf Try.prog 11 15)
 (mkS 90
 [(1, AV.pt 0 0 0), (3, goI (↑i : Int)), (4, AV.pt 1 0 0), (5, AV.os 2 0 n), (6, goI (↑b : Int)),
 (7,
 AV.sl
 (List.take (List.length (U.kidW (List.map encB bl) (↑b : Int)))
 (List.drop 0 (List.map encI (U.kidW (List.map encB bl) (↑b : Int)))))),
 (8, goI 0)]
 [Row.box [AV.sl X], Row.box [AV.sl ks, AV.sl bs, goI p, goI q, AV.sl (List.map encB bl)],
 Row.arr 1 (List.map encI c)])
 (Ex.exit 4,
 mkS 90 [(1, AV.pt 0 0 0), (3, goI (↑i : Int)), (4, AV.pt 1 0 0), (5, AV.os 2 0 n), (6, goI (↑b : Int))]
 [Row.box [AV.sl X], Row.box [AV.sl ks, AV.sl bs, goI p, goI q, AV.sl (List.map encB bl)],
 Row.arr 1 (List.map encI c2)]) ∧
 LoopTo Try.prog H (H 11) 0 (loopOf Try.prog 11 11)
 (mkS 90
 [(1, AV.pt 0 0 0), (3, goI (↑i : Int)), (4, AV.pt 1 0 0), (5, AV.os 2 0 n),
 (6, goI (IntKind.wrap IntKind.i64 ((↑b : Int) + 1)))]
 [Row.box [AV.sl X], Row.box [AV.sl ks, AV.sl bs, goI p, goI q, AV.sl (List.map encB bl)],
 Row.arr 1 (List.map encI c2)])
 r)
 ((Ex.exit 2,
 mkS 90 [(1, AV.pt 0 0 0), (3, goI (↑i : Int)), (4, AV.pt 1 0 0), (5, AV.os 2 0 n)]
 [Row.box [AV.sl X], Row.box [AV.sl ks, AV.sl bs, goI p, goI q, AV.sl (List.map encB bl)],
 Row.arr 1 (List.map encI c)]) =
 r)) := by kernel_rfl
theorem tn11_15 (X : List AV) (Y : List AV) (i : Nat) (n : Nat) (b : Nat) (k : Nat) (c : List Int) (l : List Int) (r : Ex × St) : (turnT Try.prog H (fun f args sto => CT.of (F0 f args sto)) L0 false (H 11) 0 (loopOf Try.prog 11 15)
 (mkS 90
 [(1, AV.pt 0 0 0), (3, goI (↑i : Int)), (4, AV.pt 1 0 0), (5, AV.os 2 0 n), (6, goI (↑b : Int)),
 (7, AV.sl (List.map encI l)), (8, goI (↑k : Int))]
 [Row.box X, Row.box Y, Row.arr 1 (List.map encI c)])
 r) = (TB (decide ((↑k : Int) < (↑(List.length (List.map encI l)) : Int)))
 ((0 ≤ (↑k : Int) ∧ (List.map encI l)[k]? = some [goI (rdI (rowAt (List.map encI l) k) 0)]) ∧
 TB (decide (rdI (rowAt (List.map encI l) k) 0 < 1))
 ((Ex.ret, mkS 90 [(2, goB false)] [Row.dead, Row.dead, Row.dead]) = r)
 ((0 ≤ (↑k : Int) ∧ (List.map encI l)[k]? = some [goI (rdI (rowAt (List.map encI l) k) 0)]) ∧
 TB (decide (rdI (rowAt (List.map encI l) k) 0 ≥ (↑n : Int)))
 ((Ex.ret, mkS 90 [(2, goB false)] [Row.dead, Row.dead, Row.dead]) = r)
 ((0 ≤ (↑k : Int) ∧ (List.map encI l)[k]? = some [goI (rdI (rowAt (List.map encI l) k) 0)]) ∧
 (0 ≤ rdI (rowAt (List.map encI l) k) 0 ∧
 rdI (rowAt (List.map encI l) k) 0 < (↑n : Int) ∧
 0 + Int.toNat (rdI (rowAt (List.map encI l) k) 0) < List.length (List.map encI c)) ∧
 cutAt 1 0 (List.map encI c)[0 + Int.toNat (rdI (rowAt (List.map encI l) k) 0)]? =
 some [goI (rdI (rowAt (List.map encI c) (0 + Int.toNat (rdI (rowAt (List.map encI l) k) 0))) 0)] ∧
 (0 ≤ rdI (rowAt (List.map encI l) k) 0 ∧
 rdI (rowAt (List.map encI l) k) 0 < (↑n : Int) ∧
 0 + Int.toNat (rdI (rowAt (List.map encI l) k) 0) < List.length (List.map encI c)) ∧
 Option.map List.length (List.map encI c)[0 + Int.toNat (rdI (rowAt (List.map encI l) k) 0)]? =
 some 1 ∧
 LoopTo Try.prog H (H 11) 0 (loopOf Try.prog 11 15)
 (mkS 90
 [(1, AV.pt 0 0 0), (3, goI (↑i : Int)), (4, AV.pt 1 0 0), (5, AV.os 2 0 n), (6, goI (↑b : Int)),
 (7, AV.sl (List.map encI l)), (8, goI (IntKind.wrap IntKind.i64 ((↑k : Int) + 1)))]
 [Row.box X, Row.box Y,
 Row.arr 1
 (List.set (List.map encI c) (0 + Int.toNat (rdI (rowAt (List.map encI l) k) 0))
 [goI
 (IntKind.wrap IntKind.i64
 (rdI (rowAt (List.map encI c) (0 + Int.toNat (rdI (rowAt (List.map encI l) k) 0)))
 0 +
 1))])])
 r)))
 ((Ex.exit 4,
 mkS 90 [(1, AV.pt 0 0 0), (3, goI (↑i : Int)), (4, AV.pt 1 0 0), (5, AV.os 2 0 n), (6, goI (↑b : Int))]
 [Row.box X, Row.box Y, Row.arr 1 (List.map encI c)]) =
 r)) := by kernel_rfl
theorem tn11_21 (X : List (List AV)) (p : Int) (q : Int) (ks : List (List AV)) (bs : List (List AV)) (bl : List XB) (i : Nat) (n : Nat) (b : Nat) (c : List Int) (r : Ex × St) : (turnT Try.prog H (FN8 false) L0 false (H 11) 0 (loopOf Try.prog 11 21)
 (mkS 90 [(1, AV.pt 0 0 0), (3, goI (↑i : Int)), (4, AV.pt 1 0 0), (5, AV.os 2 0 n), (9, goI (↑b : Int))]
 [Row.box [AV.sl X], Row.box [AV.sl ks, AV.sl bs, goI p, goI q, AV.sl (List.map encB bl)],
 Row.arr 1 (List.map encI c)])
 r) = (TB (decide ((↑b : Int) < (↑n : Int)))
 (TB (decide ((↑b : Int) > 0))
 (Wf Try.prog H 31
 [AV.agg [AV.sl ks, AV.sl bs, goI p, goI q, AV.sl (List.map encB bl)], goI (↑b : Int), goI (↑b : Int)] [] =
 some (goB (U.domW (List.map encB bl) (↑b : Int) (↑b : Int)), [], []) ∧
 TB (U.domW (List.map encB bl) (↑b : Int) (↑b : Int))
 ((0 ≤ (↑b : Int) ∧ (↑b : Int) < (↑n : Int) ∧ 0 + b < List.length (List.map encI c)) ∧
 cutAt 1 0 (List.map encI c)[0 + b]? = some [goI (rdI (rowAt (List.map encI c) (0 + b)) 0)] ∧
 TB (!rdI (rowAt (List.map encI c) (0 + b)) 0 == 1)
 ((Ex.ret, mkS 90 [(2, goB false)] [Row.dead, Row.dead, Row.dead]) = r)
 (LoopTo Try.prog H (H 11) 0 (loopOf Try.prog 11 21)
 (mkS 90
 [(1, AV.pt 0 0 0), (3, goI (↑i : Int)), (4, AV.pt 1 0 0), (5, AV.os 2 0 n),
 (9, goI (IntKind.wrap IntKind.i64 ((↑b : Int) + 1)))]
 [Row.box [AV.sl X], Row.box [AV.sl ks, AV.sl bs, goI p, goI q, AV.sl (List.map encB bl)],
 Row.arr 1 (List.map encI c)])
 r))
 ((0 ≤ (↑b : Int) ∧ (↑b : Int) < (↑n : Int) ∧ 0 + b < List.length (List.map encI c)) ∧
 cutAt 1 0 (List.map encI c)[0 + b]? = some [goI (rdI (rowAt (List.map encI c) (0 + b)) 0)] ∧
 TB (!rdI (rowAt (List.map encI c) (0 + b)) 0 == 0)
 ((Ex.ret, mkS 90 [(2, goB false)] [Row.dead, Row.dead, Row.dead]) = r)
 (LoopTo Try.prog H (H 11) 0 (loopOf Try.prog 11 21)
 (mkS 90
 [(1, AV.pt 0 0 0), (3, goI (↑i : Int)), (4, AV.pt 1 0 0), (5, AV.os 2 0 n),
 (9, goI (IntKind.wrap IntKind.i64 ((↑b : Int) + 1)))]
 [Row.box [AV.sl X], Row.box [AV.sl ks, AV.sl bs, goI p, goI q, AV.sl (List.map encB bl)],
 Row.arr 1 (List.map encI c)])
 r)))
 ((0 ≤ (↑b : Int) ∧ (↑b : Int) < (↑n : Int) ∧ 0 + b < List.length (List.map encI c)) ∧
 cutAt 1 0 (List.map encI c)[0 + b]? = some [goI (rdI (rowAt (List.map encI c) (0 + b)) 0)] ∧
 TB (!rdI (rowAt (List.map encI c) (0 + b)) 0 == 0)
 ((Ex.ret, mkS 90 [(2, goB false)] [Row.dead, Row.dead, Row.dead]) = r)
 (LoopTo Try.prog H (H 11) 0 (loopOf Try.prog 11 21)
 (mkS 90
 [(1, AV.pt 0 0 0), (3, goI (↑i : Int)), (4, AV.pt 1 0 0), (5, AV.os 2 0 n),
 (9, goI (IntKind.wrap IntKind.i64 ((↑b : Int) + 1)))]
 [Row.box [AV.sl X], Row.box [AV.sl ks, AV.sl bs, goI p, goI q, AV.sl (List.map encB bl)],
 Row.arr 1 (List.map encI c)])
 r)))
 ((Ex.exit 6, mkS 90 [(1, AV.pt 0 0 0), (3, goI (↑i : Int))] [Row.box [AV.sl X], Row.dead, Row.dead]) = r)) := by kernel_rfl
end Go.Proofs.Ytabdcfcnngnnoaa.E
