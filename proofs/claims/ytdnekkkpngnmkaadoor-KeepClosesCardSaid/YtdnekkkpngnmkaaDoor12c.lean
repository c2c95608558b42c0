/- Functions, by what the evaluator asks; the theorems t.. were printed by show.txt, a program of this session. -/
import Derived.Test.YtdnekkkpngnmkaaDoor12b
set_option linter.unusedVariables false
set_option linter.unusedSectionVars false
set_option linter.unusedSimpArgs false
set_option maxRecDepth 100000
namespace Go.Proofs.YtdnekkkpngnmkaaDoor.E
open Go
namespace U
def kindR (k : List (List AV)) (n c : Int) : Bool := rdI (rowAt k n.toNat) 0 == c
end U
def FT : CallT := fun f args sto => match f, args, sto with
 | 66, [.v (.int _ n), _], [.box (.sl k :: _)] => .is (goB (U.kindR k n 1), sto, [])
 | 68, [.v (.int _ n), _], [.box (.sl k :: _)] => .is (goB (U.kindR k n 2), sto, [])
 | 65, _, _ => .is (goB true, sto, [])
 | _, _, _ => .no
def FS (m : List Int) (k : Nat) (zs : List (List AV)) (o w : List Int) : CallT := fun f args sto => match f, sto with
 | 83, _ => .is (.os 0 0 m.length, [.arr 1 (m.map encI)], [])
 | 82, _ :: rest => .is (.os 0 0 k, .arr 1 zs :: rest, [])
 | _, _ => .no
namespace U
def withR (s l : List (List AV)) : List (List AV) := (withL (decU s) (decI l)).map encU
end U
def FC (m : List Int) (k : Nat) (zs : List (List AV)) (x : List Int) (h : Bool) : CallT := fun f args sto => match f, args with
 | 64, _ => .is (.os 1 0 k, sto ++ [.arr 1 zs], [])
 | 39, _ => .is (.sl (m.map encI), [], [])
 | 63, _ => .is (.sl (x.map encU), [], [])
 | 16, _ => .is (.os 0 0 k, [.arr 1 (x.map encU)], [])
 | 67, _ => .is (.os 0 0 m.length, [.arr 1 (m.map encI)], [])
 | 31, [.sl a, .sl b] => .is (.sl (U.withR a b), [], [])
 | 26, _ => .is (goB h, [], [])
 | 58, [.sl x] => .is (.os 0 0 (U.neatR x).length, [.arr 1 (U.neatR x)], [])
 | _, _ => .no
def FC2 (k0 : Nat) (zs : List (List AV)) (d : List Int) (k : Nat) (x : List Int) : CallT := fun f args sto => match f, args with
 | 39, _ => .is (.sl (d.map encI), [], [])
 | 64, _ => .is (.os 0 0 k0, [.arr 1 zs], [])
 | 63, _ => .is (.sl (x.map encU), [], [])
 | _, _ => .no
def LC (w : List Int) : Nat → St → LT := fun id st => .is (.exit 0) (mkS 30 [(5, .sl (w.map encU))] [.dead])
def LO (m : List Int) : Nat → St → LT := fun id st => .is (.exit 0) (mkS 33 [(7, .os 1 0 m.length)] [.dead, .arr 1 (m.map encI)])
def LP (w : List Int) : Nat → St → LT := fun id st => .is (.exit 0) (mkS 38 [(5, .sl (w.map encU))] [.dead])

theorem ttR (v : Int) (K : List Int) (Bs : List Int) (p : Int) (q : Int) (bl : List (List AV)) (r : AV × List Row × List Nat) : (runT Tryd.prog H (fun f args sto => CT.of (F0 f args sto)) L0 false 66 [goI v, AV.pt 0 0 0]
 [Row.box [AV.sl (List.map encI K), AV.sl (List.map encI Bs), goI p, goI q, AV.sl bl]] fun q => q = r) = ((0 ≤ v ∧ (List.map encI K)[Int.toNat v]? = some [goI (rdI (rowAt (List.map encI K) (Int.toNat v)) 0)]) ∧
 (goB (rdI (rowAt (List.map encI K) (Int.toNat v)) 0 == 1),
 [Row.box [AV.sl (List.map encI K), AV.sl (List.map encI Bs), goI p, goI q, AV.sl bl]], []) =
 r) := by kernel_rfl
theorem tsR (v : Int) (K : List Int) (Bs : List Int) (p : Int) (q : Int) (bl : List (List AV)) (r : AV × List Row × List Nat) : (runT Tryd.prog H FT L0 false 84 [goI v, AV.pt 0 0 0, AV.pt 1 0 0]
 [Row.box [AV.sl (List.map encI K), AV.sl (List.map encI Bs), goI p, goI q, AV.sl bl],
 Row.box [AV.clo 66 [AV.pt 2 0 0]],
 Row.box [AV.sl (List.map encI K), AV.sl (List.map encI Bs), goI p, goI q, AV.sl bl]]
 fun q => q = r) = (TB (decide (v ≥ (↑(List.length (List.map encI K)) : Int)))
 ((goB true,
 [Row.box [AV.sl (List.map encI K), AV.sl (List.map encI Bs), goI p, goI q, AV.sl bl],
 Row.box [AV.clo 66 [AV.pt 2 0 0]],
 Row.box [AV.sl (List.map encI K), AV.sl (List.map encI Bs), goI p, goI q, AV.sl bl]],
 []) =
 r)
 (Wf Tryd.prog H 66 [goI v, AV.pt 0 0 0]
 [Row.box [AV.sl (List.map encI K), AV.sl (List.map encI Bs), goI p, goI q, AV.sl bl]] =
 some
 (goB (U.kindR (List.map encI K) v 1),
 [Row.box [AV.sl (List.map encI K), AV.sl (List.map encI Bs), goI p, goI q, AV.sl bl]], []) ∧
 (goB !U.kindR (List.map encI K) v 1,
 [Row.box [AV.sl (List.map encI K), AV.sl (List.map encI Bs), goI p, goI q, AV.sl bl],
 Row.box [AV.clo 66 [AV.pt 2 0 0]],
 Row.box [AV.sl (List.map encI K), AV.sl (List.map encI Bs), goI p, goI q, AV.sl bl]],
 []) =
 r)) := by kernel_rfl
theorem tmR (s : List Int) (m : List Int) (K : List Int) (Bs : List Int) (p : Int) (q : Int) (bl : List (List AV)) (k : Nat) (zs : List (List AV)) (r : AV × List Row × List Nat) : (runT Tryd.prog H (FS m k zs [] []) L0 false 64
 [AV.agg [AV.sl (List.map encI K), AV.sl (List.map encI Bs), goI p, goI q, AV.sl bl], AV.sl (List.map encU s),
 AV.clo 66 [AV.pt 0 0 0]]
 [Row.box [AV.sl (List.map encI K), AV.sl (List.map encI Bs), goI p, goI q, AV.sl bl]] fun q => q = r) = (Wf Tryd.prog H 83 [AV.sl (List.map encU s)] [] = some (AV.os 0 0 (List.length m), [Row.arr 1 (List.map encI m)], []) ∧
 Wf Tryd.prog H 82 [AV.os 0 0 (List.length m), AV.clo 84 [AV.pt 1 0 0, AV.pt 2 0 0]]
 [Row.arr 1 (List.map encI m),
 Row.box [AV.sl (List.map encI K), AV.sl (List.map encI Bs), goI p, goI q, AV.sl bl],
 Row.box [AV.clo 66 [AV.pt 3 0 0]],
 Row.box [AV.sl (List.map encI K), AV.sl (List.map encI Bs), goI p, goI q, AV.sl bl]] =
 some
 (AV.os 0 0 k,
 [Row.arr 1 zs, Row.box [AV.sl (List.map encI K), AV.sl (List.map encI Bs), goI p, goI q, AV.sl bl],
 Row.box [AV.clo 66 [AV.pt 3 0 0]],
 Row.box [AV.sl (List.map encI K), AV.sl (List.map encI Bs), goI p, goI q, AV.sl bl]],
 []) ∧
 (AV.os 1 0 k, [Row.box [AV.sl (List.map encI K), AV.sl (List.map encI Bs), goI p, goI q, AV.sl bl], Row.arr 1 zs],
 []) =
 r) := by kernel_rfl
theorem ttD (v : Int) (K : List Int) (Bs : List Int) (p : Int) (q : Int) (bl : List (List AV)) (r : AV × List Row × List Nat) : (runT Tryd.prog H (fun f args sto => CT.of (F0 f args sto)) L0 false 68 [goI v, AV.pt 0 0 0]
 [Row.box [AV.sl (List.map encI K), AV.sl (List.map encI Bs), goI p, goI q, AV.sl bl]] fun q => q = r) = ((0 ≤ v ∧ (List.map encI K)[Int.toNat v]? = some [goI (rdI (rowAt (List.map encI K) (Int.toNat v)) 0)]) ∧
 (goB (rdI (rowAt (List.map encI K) (Int.toNat v)) 0 == 2),
 [Row.box [AV.sl (List.map encI K), AV.sl (List.map encI Bs), goI p, goI q, AV.sl bl]], []) =
 r) := by kernel_rfl
theorem tsD (v : Int) (K : List Int) (Bs : List Int) (p : Int) (q : Int) (bl : List (List AV)) (r : AV × List Row × List Nat) : (runT Tryd.prog H FT L0 false 84 [goI v, AV.pt 0 0 0, AV.pt 1 0 0]
 [Row.box [AV.sl (List.map encI K), AV.sl (List.map encI Bs), goI p, goI q, AV.sl bl],
 Row.box [AV.clo 68 [AV.pt 2 0 0]],
 Row.box [AV.sl (List.map encI K), AV.sl (List.map encI Bs), goI p, goI q, AV.sl bl]]
 fun q => q = r) = (TB (decide (v ≥ (↑(List.length (List.map encI K)) : Int)))
 ((goB true,
 [Row.box [AV.sl (List.map encI K), AV.sl (List.map encI Bs), goI p, goI q, AV.sl bl],
 Row.box [AV.clo 68 [AV.pt 2 0 0]],
 Row.box [AV.sl (List.map encI K), AV.sl (List.map encI Bs), goI p, goI q, AV.sl bl]],
 []) =
 r)
 (Wf Tryd.prog H 68 [goI v, AV.pt 0 0 0]
 [Row.box [AV.sl (List.map encI K), AV.sl (List.map encI Bs), goI p, goI q, AV.sl bl]] =
 some
 (goB (U.kindR (List.map encI K) v 2),
 [Row.box [AV.sl (List.map encI K), AV.sl (List.map encI Bs), goI p, goI q, AV.sl bl]], []) ∧
 (goB !U.kindR (List.map encI K) v 2,
 [Row.box [AV.sl (List.map encI K), AV.sl (List.map encI Bs), goI p, goI q, AV.sl bl],
 Row.box [AV.clo 68 [AV.pt 2 0 0]],
 Row.box [AV.sl (List.map encI K), AV.sl (List.map encI Bs), goI p, goI q, AV.sl bl]],
 []) =
 r)) := by kernel_rfl
theorem tmD (s : List Int) (m : List Int) (K : List Int) (Bs : List Int) (p : Int) (q : Int) (bl : List (List AV)) (k : Nat) (zs : List (List AV)) (r : AV × List Row × List Nat) : (runT Tryd.prog H (FS m k zs [] []) L0 false 64
 [AV.agg [AV.sl (List.map encI K), AV.sl (List.map encI Bs), goI p, goI q, AV.sl bl], AV.sl (List.map encU s),
 AV.clo 68 [AV.pt 0 0 0]]
 [Row.box [AV.sl (List.map encI K), AV.sl (List.map encI Bs), goI p, goI q, AV.sl bl]] fun q => q = r) = (Wf Tryd.prog H 83 [AV.sl (List.map encU s)] [] = some (AV.os 0 0 (List.length m), [Row.arr 1 (List.map encI m)], []) ∧
 Wf Tryd.prog H 82 [AV.os 0 0 (List.length m), AV.clo 84 [AV.pt 1 0 0, AV.pt 2 0 0]]
 [Row.arr 1 (List.map encI m),
 Row.box [AV.sl (List.map encI K), AV.sl (List.map encI Bs), goI p, goI q, AV.sl bl],
 Row.box [AV.clo 68 [AV.pt 3 0 0]],
 Row.box [AV.sl (List.map encI K), AV.sl (List.map encI Bs), goI p, goI q, AV.sl bl]] =
 some
 (AV.os 0 0 k,
 [Row.arr 1 zs, Row.box [AV.sl (List.map encI K), AV.sl (List.map encI Bs), goI p, goI q, AV.sl bl],
 Row.box [AV.clo 68 [AV.pt 3 0 0]],
 Row.box [AV.sl (List.map encI K), AV.sl (List.map encI Bs), goI p, goI q, AV.sl bl]],
 []) ∧
 (AV.os 1 0 k, [Row.box [AV.sl (List.map encI K), AV.sl (List.map encI Bs), goI p, goI q, AV.sl bl], Row.arr 1 zs],
 []) =
 r) := by kernel_rfl
theorem ttB (v : Int) (r : AV × List Row × List Nat) : (runT Tryd.prog H (fun f args sto => CT.of (F0 f args sto)) L0 false 65 [goI v] [] fun q => q = r) = ((goB true, [], []) = r) := by kernel_rfl
theorem tsB (v : Int) (K : List Int) (Bs : List Int) (p : Int) (q : Int) (bl : List (List AV)) (r : AV × List Row × List Nat) : (runT Tryd.prog H FT L0 false 84 [goI v, AV.pt 0 0 0, AV.pt 1 0 0]
 [Row.box [AV.sl (List.map encI K), AV.sl (List.map encI Bs), goI p, goI q, AV.sl bl], Row.box [AV.clo 65 []]] fun q =>
 q = r) = (TB (decide (v ≥ (↑(List.length (List.map encI K)) : Int)))
 ((goB true,
 [Row.box [AV.sl (List.map encI K), AV.sl (List.map encI Bs), goI p, goI q, AV.sl bl], Row.box [AV.clo 65 []]],
 []) =
 r)
 (Wf Tryd.prog H 65 [goI v] [] = some (goB true, [], []) ∧
 (goB false,
 [Row.box [AV.sl (List.map encI K), AV.sl (List.map encI Bs), goI p, goI q, AV.sl bl], Row.box [AV.clo 65 []]],
 []) =
 r)) := by kernel_rfl
theorem tmB (s : List Int) (m : List Int) (K : List Int) (Bs : List Int) (p : Int) (q : Int) (bl : List (List AV)) (k : Nat) (zs : List (List AV)) (r : AV × List Row × List Nat) : (runT Tryd.prog H (FS m k zs [] []) L0 false 64
 [AV.agg [AV.sl (List.map encI K), AV.sl (List.map encI Bs), goI p, goI q, AV.sl bl], AV.sl (List.map encU s),
 AV.clo 65 []]
 [] fun q => q = r) = (Wf Tryd.prog H 83 [AV.sl (List.map encU s)] [] = some (AV.os 0 0 (List.length m), [Row.arr 1 (List.map encI m)], []) ∧
 Wf Tryd.prog H 82 [AV.os 0 0 (List.length m), AV.clo 84 [AV.pt 1 0 0, AV.pt 2 0 0]]
 [Row.arr 1 (List.map encI m),
 Row.box [AV.sl (List.map encI K), AV.sl (List.map encI Bs), goI p, goI q, AV.sl bl], Row.box [AV.clo 65 []]] =
 some
 (AV.os 0 0 k,
 [Row.arr 1 zs, Row.box [AV.sl (List.map encI K), AV.sl (List.map encI Bs), goI p, goI q, AV.sl bl],
 Row.box [AV.clo 65 []]],
 []) ∧
 (AV.os 0 0 k, [Row.arr 1 zs], []) = r) := by kernel_rfl
theorem tRefs (s : List Int) (k : Nat) (zs : List (List AV)) (K : List Int) (Bs : List Int) (p : Int) (q : Int) (bl : List (List AV)) (r : AV × List Row × List Nat) : (runT Tryd.prog H (FC [] k zs [] false) L0 false 37
 [AV.agg [AV.sl (List.map encI K), AV.sl (List.map encI Bs), goI p, goI q, AV.sl bl], AV.sl (List.map encU s)] []
 fun q => q = r) = (Wf Tryd.prog H 64
 [AV.agg [AV.sl (List.map encI K), AV.sl (List.map encI Bs), goI p, goI q, AV.sl bl], AV.sl (List.map encU s),
 AV.clo 66 [AV.pt 0 0 0]]
 [Row.box [AV.sl (List.map encI K), AV.sl (List.map encI Bs), goI p, goI q, AV.sl bl]] =
 some
 (AV.os 1 0 k, [Row.box [AV.sl (List.map encI K), AV.sl (List.map encI Bs), goI p, goI q, AV.sl bl], Row.arr 1 zs],
 []) ∧
 (AV.sl (List.take k (List.drop 0 zs)), [], []) = r) := by kernel_rfl
theorem tDers (s : List Int) (k : Nat) (zs : List (List AV)) (K : List Int) (Bs : List Int) (p : Int) (q : Int) (bl : List (List AV)) (r : AV × List Row × List Nat) : (runT Tryd.prog H (FC [] k zs [] false) L0 false 39
 [AV.agg [AV.sl (List.map encI K), AV.sl (List.map encI Bs), goI p, goI q, AV.sl bl], AV.sl (List.map encU s)] []
 fun q => q = r) = (Wf Tryd.prog H 64
 [AV.agg [AV.sl (List.map encI K), AV.sl (List.map encI Bs), goI p, goI q, AV.sl bl], AV.sl (List.map encU s),
 AV.clo 68 [AV.pt 0 0 0]]
 [Row.box [AV.sl (List.map encI K), AV.sl (List.map encI Bs), goI p, goI q, AV.sl bl]] =
 some
 (AV.os 1 0 k, [Row.box [AV.sl (List.map encI K), AV.sl (List.map encI Bs), goI p, goI q, AV.sl bl], Row.arr 1 zs],
 []) ∧
 (AV.sl (List.take k (List.drop 0 zs)), [], []) = r) := by kernel_rfl
theorem tClose (s : List Int) (d : List Int) (k0 : Nat) (zs : List (List AV)) (k : Nat) (x : List Int) (w : List Int) (K : List Int) (Bs : List Int) (p : Int) (q : Int) (bl : List (List AV)) (r : AV × List Row × List Nat) : (runT Tryd.prog H (FC2 k0 zs d k x) (LC w) false 34
 [AV.agg [AV.sl (List.map encI K), AV.sl (List.map encI Bs), goI p, goI q, AV.sl bl], AV.sl (List.map encU s)] []
 fun q => q = r) = (Wf Tryd.prog H 64
 [AV.agg [AV.sl (List.map encI K), AV.sl (List.map encI Bs), goI p, goI q, AV.sl bl], AV.sl (List.map encU s),
 AV.clo 65 []]
 [] =
 some (AV.os 0 0 k0, [Row.arr 1 zs], []) ∧
 Wf Tryd.prog H 63 [AV.sl (List.take k0 (List.drop 0 zs))] [] = some (AV.sl (List.map encU x), [], []) ∧
 Wf Tryd.prog H 39
 [AV.agg [AV.sl (List.map encI K), AV.sl (List.map encI Bs), goI p, goI q, AV.sl bl], AV.sl (List.map encU s)]
 [] =
 some (AV.sl (List.map encI d), [], []) ∧
 LoopTo Tryd.prog H (H 34) 0 (loopOf Tryd.prog 34 3)
 (mkS 30
 [(2, AV.pt 0 0 0), (5, AV.sl (List.map encU x)), (14, AV.sl (List.map encI d)),
 (15, goI (↑(List.length (List.map encI d)) : Int)), (16, goI 0)]
 [Row.box [AV.sl (List.map encI K), AV.sl (List.map encI Bs), goI p, goI q, AV.sl bl]])
 (Ex.exit 0, mkS 30 [(5, AV.sl (List.map encU w))] [Row.dead]) ∧
 (AV.sl (List.map encU w), [], []) = r) := by kernel_rfl
theorem tClose_3 (s0 : List Int) (d : List Int) (n : Int) (i : Nat) (k : Nat) (x : List Int) (K : List Int) (Bs : List Int) (p : Int) (q : Int) (bl : List (List AV)) (r : Ex × St) : (turnT Tryd.prog H (FC [] k [] x false) L0 false (H 34) 0 (loopOf Tryd.prog 34 3)
 (mkS 30
 [(2, AV.pt 0 0 0), (5, AV.sl (List.map encU s0)), (14, AV.sl (List.map encI d)), (15, goI n), (16, goI (↑i : Int))]
 [Row.box [AV.sl (List.map encI K), AV.sl (List.map encI Bs), goI p, goI q, AV.sl bl]])
 r) = (TB (decide ((↑i : Int) < n))
 ((0 ≤ (↑i : Int) ∧ (List.map encI d)[i]? = some [goI (rdI (rowAt (List.map encI d) i) 0)]) ∧
 (0 ≤ rdI (rowAt (List.map encI d) i) 0 ∧
 (List.map encI Bs)[Int.toNat (rdI (rowAt (List.map encI d) i) 0)]? =
 some [goI (rdI (rowAt (List.map encI Bs) (Int.toNat (rdI (rowAt (List.map encI d) i) 0))) 0)]) ∧
 Wf Tryd.prog H 16
 [AV.sl (List.map encU s0),
 AV.sl [[goI (rdI (rowAt (List.map encI Bs) (Int.toNat (rdI (rowAt (List.map encI d) i) 0))) 0)]]]
 [] =
 some (AV.os 0 0 k, [Row.arr 1 (List.map encU x)], []) ∧
 LoopTo Tryd.prog H (H 34) 0 (loopOf Tryd.prog 34 3)
 (mkS 30
 [(2, AV.pt 0 0 0), (5, AV.sl (List.take k (List.drop 0 (List.map encU x)))), (14, AV.sl (List.map encI d)),
 (15, goI n), (16, goI (IntKind.wrap IntKind.i64 ((↑i : Int) + 1)))]
 [Row.box [AV.sl (List.map encI K), AV.sl (List.map encI Bs), goI p, goI q, AV.sl bl]])
 r)
 ((Ex.exit 0, mkS 30 [(5, AV.sl (List.map encU s0))] [Row.dead]) = r)) := by kernel_rfl
theorem tOf (s : List Int) (m : List Int) (c : Int) (K : List Int) (Bs : List Int) (p : Int) (q : Int) (bl : List (List AV)) (r : AV × List Row × List Nat) : (runT Tryd.prog H (fun f args sto => CT.of (F0 f args sto)) (LO m) false 67
 [AV.agg [AV.sl (List.map encI K), AV.sl (List.map encI Bs), goI p, goI q, AV.sl bl], AV.sl (List.map encU s), goI c]
 [] fun q => q = r) = (LoopTo Tryd.prog H (H 67) 0 (loopOf Tryd.prog 67 3)
 (mkS 33 [(1, AV.sl (List.map encU s)), (2, goI c), (3, AV.pt 0 0 0), (7, AV.os 1 0 0), (8, goI 0)]
 [Row.box [AV.sl (List.map encI K), AV.sl (List.map encI Bs), goI p, goI q, AV.sl bl], Row.arr 1 []])
 (Ex.exit 0, mkS 33 [(7, AV.os 1 0 (List.length m))] [Row.dead, Row.arr 1 (List.map encI m)]) ∧
 (AV.os 0 0 (List.length m), [Row.arr 1 (List.map encI m)], []) = r) := by kernel_rfl
theorem tOf_3 (s : List Int) (l : List Int) (c : Int) (v : Nat) (h : Bool) (K : List Int) (Bs : List Int) (p : Int) (q : Int) (bl : List (List AV)) (r : Ex × St) : (turnT Tryd.prog H (FC [] 0 [] [] h) L0 false (H 67) 0 (loopOf Tryd.prog 67 3)
 (mkS 33
 [(1, AV.sl (List.map encU s)), (2, goI c), (3, AV.pt 0 0 0), (7, AV.os 1 0 (List.length l)), (8, goI (↑v : Int))]
 [Row.box [AV.sl (List.map encI K), AV.sl (List.map encI Bs), goI p, goI q, AV.sl bl], Row.arr 1 (List.map encI l)])
 r) = (TB (decide ((↑v : Int) < (↑(List.length (List.map encI K)) : Int)))
 ((0 ≤ (↑v : Int) ∧ (List.map encI K)[v]? = some [goI (rdI (rowAt (List.map encI K) v) 0)]) ∧
 TB (rdI (rowAt (List.map encI K) v) 0 == c)
 (Wf Tryd.prog H 26 [AV.sl (List.map encU s), goI (↑v : Int)] [] = some (goB h, [], []) ∧
 TB h
 (true = true ∧
 (List.length l = List.length (List.map encI l) ∧ List.length l + 1 ≤ 1000000) ∧
 LoopTo Tryd.prog H (H 67) 0 (loopOf Tryd.prog 67 3)
 (mkS 33
 [(1, AV.sl (List.map encU s)), (2, goI c), (3, AV.pt 0 0 0), (7, AV.os 1 0 (List.length l + 1)),
 (8, goI (IntKind.wrap IntKind.i64 ((↑v : Int) + 1)))]
 [Row.box [AV.sl (List.map encI K), AV.sl (List.map encI Bs), goI p, goI q, AV.sl bl],
 Row.arr 1 (List.map encI l ++ [[goI (↑v : Int)]])])
 r)
 (LoopTo Tryd.prog H (H 67) 0 (loopOf Tryd.prog 67 3)
 (mkS 33
 [(1, AV.sl (List.map encU s)), (2, goI c), (3, AV.pt 0 0 0), (7, AV.os 1 0 (List.length l)),
 (8, goI (IntKind.wrap IntKind.i64 ((↑v : Int) + 1)))]
 [Row.box [AV.sl (List.map encI K), AV.sl (List.map encI Bs), goI p, goI q, AV.sl bl],
 Row.arr 1 (List.map encI l)])
 r))
 (LoopTo Tryd.prog H (H 67) 0 (loopOf Tryd.prog 67 3)
 (mkS 33
 [(1, AV.sl (List.map encU s)), (2, goI c), (3, AV.pt 0 0 0), (7, AV.os 1 0 (List.length l)),
 (8, goI (IntKind.wrap IntKind.i64 ((↑v : Int) + 1)))]
 [Row.box [AV.sl (List.map encI K), AV.sl (List.map encI Bs), goI p, goI q, AV.sl bl],
 Row.arr 1 (List.map encI l)])
 r))
 ((Ex.exit 0, mkS 33 [(7, AV.os 1 0 (List.length l))] [Row.dead, Row.arr 1 (List.map encI l)]) = r)) := by kernel_rfl
theorem tORefs (s : List Int) (m : List Int) (K : List Int) (Bs : List Int) (p : Int) (q : Int) (bl : List (List AV)) (r : AV × List Row × List Nat) : (runT Tryd.prog H (FC m 0 [] [] false) L0 false 38
 [AV.agg [AV.sl (List.map encI K), AV.sl (List.map encI Bs), goI p, goI q, AV.sl bl], AV.sl (List.map encU s)] []
 fun q => q = r) = (Wf Tryd.prog H 67
 [AV.agg [AV.sl (List.map encI K), AV.sl (List.map encI Bs), goI p, goI q, AV.sl bl], AV.sl (List.map encU s),
 goI 1]
 [] =
 some (AV.os 0 0 (List.length m), [Row.arr 1 (List.map encI m)], []) ∧
 (AV.sl (List.take (List.length m) (List.drop 0 (List.map encI m))), [], []) = r) := by kernel_rfl
theorem tODers (s : List Int) (m : List Int) (K : List Int) (Bs : List Int) (p : Int) (q : Int) (bl : List (List AV)) (r : AV × List Row × List Nat) : (runT Tryd.prog H (FC m 0 [] [] false) L0 false 40
 [AV.agg [AV.sl (List.map encI K), AV.sl (List.map encI Bs), goI p, goI q, AV.sl bl], AV.sl (List.map encU s)] []
 fun q => q = r) = (Wf Tryd.prog H 67
 [AV.agg [AV.sl (List.map encI K), AV.sl (List.map encI Bs), goI p, goI q, AV.sl bl], AV.sl (List.map encU s),
 goI 2]
 [] =
 some (AV.os 0 0 (List.length m), [Row.arr 1 (List.map encI m)], []) ∧
 (AV.sl (List.take (List.length m) (List.drop 0 (List.map encI m))), [], []) = r) := by kernel_rfl
theorem tOClose (s : List Int) (w : List Int) (K : List Int) (Bs : List Int) (p : Int) (q : Int) (bl : List (List AV)) (r : AV × List Row × List Nat) : (runT Tryd.prog H (FC [] 0 [] [] false) (LP w) false 35
 [AV.agg [AV.sl (List.map encI K), AV.sl (List.map encI Bs), goI p, goI q, AV.sl bl], AV.sl (List.map encU s)] []
 fun q => q = r) = (LoopTo Tryd.prog H (H 35) 0 (loopOf Tryd.prog 35 3)
 (mkS 38 [(1, AV.sl (List.map encU s)), (2, AV.pt 0 0 0), (5, AV.sl []), (6, goI 0)]
 [Row.box [AV.sl (List.map encI K), AV.sl (List.map encI Bs), goI p, goI q, AV.sl bl]])
 (Ex.exit 0, mkS 38 [(5, AV.sl (List.map encU w))] [Row.dead]) ∧
 Wf Tryd.prog H 58 [AV.sl (List.map encU w)] [] =
 some (AV.os 0 0 (List.length (U.neatR (List.map encU w))), [Row.arr 1 (U.neatR (List.map encU w))], []) ∧
 (AV.sl (List.take (List.length (U.neatR (List.map encU w))) (List.drop 0 (U.neatR (List.map encU w)))), [], []) = r) := by kernel_rfl
theorem tOClose_3 (s : List Int) (s0 : List Int) (v : Nat) (h : Bool) (K : List Int) (Bs : List Int) (p : Int) (q : Int) (bl : List (List AV)) (r : Ex × St) : (turnT Tryd.prog H (FC [] 0 [] [] h) L0 false (H 35) 0 (loopOf Tryd.prog 35 3)
 (mkS 38 [(1, AV.sl (List.map encU s)), (2, AV.pt 0 0 0), (5, AV.sl (List.map encU s0)), (6, goI (↑v : Int))]
 [Row.box [AV.sl (List.map encI K), AV.sl (List.map encI Bs), goI p, goI q, AV.sl bl]])
 r) = (TB (decide ((↑v : Int) < (↑(List.length (List.map encI K)) : Int)))
 (Wf Tryd.prog H 26 [AV.sl (List.map encU s), goI (↑v : Int)] [] = some (goB h, [], []) ∧
 TB (!h)
 (LoopTo Tryd.prog H (H 35) 0 (loopOf Tryd.prog 35 3)
 (mkS 38
 [(1, AV.sl (List.map encU s)), (2, AV.pt 0 0 0), (5, AV.sl (List.map encU s0)),
 (6, goI (IntKind.wrap IntKind.i64 ((↑v : Int) + 1)))]
 [Row.box [AV.sl (List.map encI K), AV.sl (List.map encI Bs), goI p, goI q, AV.sl bl]])
 r)
 (Wf Tryd.prog H 31 [AV.sl (List.map encU s0), AV.sl [[goI (↑v : Int)]]] [] =
 some (AV.sl (U.withR (List.map encU s0) [[goI (↑v : Int)]]), [], []) ∧
 (0 ≤ (↑v : Int) ∧ (List.map encI K)[v]? = some [goI (rdI (rowAt (List.map encI K) v) 0)]) ∧
 TB (rdI (rowAt (List.map encI K) v) 0 == 2)
 ((0 ≤ (↑v : Int) ∧ (List.map encI Bs)[v]? = some [goI (rdI (rowAt (List.map encI Bs) v) 0)]) ∧
 Wf Tryd.prog H 31
 [AV.sl (U.withR (List.map encU s0) [[goI (↑v : Int)]]),
 AV.sl [[goI (rdI (rowAt (List.map encI Bs) v) 0)]]]
 [] =
 some
 (AV.sl
 (U.withR (U.withR (List.map encU s0) [[goI (↑v : Int)]])
 [[goI (rdI (rowAt (List.map encI Bs) v) 0)]]),
 [], []) ∧
 LoopTo Tryd.prog H (H 35) 0 (loopOf Tryd.prog 35 3)
 (mkS 38
 [(1, AV.sl (List.map encU s)), (2, AV.pt 0 0 0),
 (5,
 AV.sl
 (U.withR (U.withR (List.map encU s0) [[goI (↑v : Int)]])
 [[goI (rdI (rowAt (List.map encI Bs) v) 0)]])),
 (6, goI (IntKind.wrap IntKind.i64 ((↑v : Int) + 1)))]
 [Row.box [AV.sl (List.map encI K), AV.sl (List.map encI Bs), goI p, goI q, AV.sl bl]])
 r)
 (LoopTo Tryd.prog H (H 35) 0 (loopOf Tryd.prog 35 3)
 (mkS 38
 [(1, AV.sl (List.map encU s)), (2, AV.pt 0 0 0),
 (5, AV.sl (U.withR (List.map encU s0) [[goI (↑v : Int)]])),
 (6, goI (IntKind.wrap IntKind.i64 ((↑v : Int) + 1)))]
 [Row.box [AV.sl (List.map encI K), AV.sl (List.map encI Bs), goI p, goI q, AV.sl bl]])
 r)))
 ((Ex.exit 0, mkS 38 [(5, AV.sl (List.map encU s0))] [Row.dead]) = r)) := by kernel_rfl
theorem kindR_map {K : List Int} {v : Int} (h0 : 0 ≤ v) (h1 : v < K.length) (c : Int) : U.kindR (K.map encI) v c = (U.nt K v.toNat == c) := by
  unfold U.kindR
  rw [rowI (show v.toNat < K.length by omega)]; rfl
section
variable (K Bs : List Int) (p q : Int) (bl : List (List AV))
theorem wtR (v : Int) (h0 : 0 ≤ v) (h1 : v < K.length) : Wf Tryd.prog H 66 [goI v, .pt 0 0 0] [.box [.sl (K.map encI), .sl (Bs.map encI), goI p, goI q, .sl bl]] = some (goB (U.nt K v.toNat == 1), [.box [.sl (K.map encI), .sl (Bs.map encI), goI p, goI q, .sl bl]], []) := by
  refine runK (ttR v K Bs p q bl _) ?_
  rw [rowI (show v.toNat < K.length by omega), getI (show v.toNat < K.length by omega)]
  exact ⟨⟨h0, rfl⟩, rfl⟩
theorem wsR (v : Int) (h0 : 0 ≤ v) : Wf Tryd.prog H 84 [goI v, .pt 0 0 0, .pt 1 0 0] [.box [.sl (K.map encI), .sl (Bs.map encI), goI p, goI q, .sl bl], .box [.clo 66 [.pt 2 0 0]], .box [.sl (K.map encI), .sl (Bs.map encI), goI p, goI q, .sl bl]] = some (goB (U.delK K 1 v), [.box [.sl (K.map encI), .sl (Bs.map encI), goI p, goI q, .sl bl], .box [.clo 66 [.pt 2 0 0]], .box [.sl (K.map encI), .sl (Bs.map encI), goI p, goI q, .sl bl]], []) := by
  refine runK (tsR v K Bs p q bl _) ?_
  unfold U.delK
  rw [List.length_map]
  by_cases h : v ≥ (K.length : Int)
  · rw [decide_eq_true h]; exact rfl
  · rw [decide_eq_false h, kindR_map h0 (by omega)]
    exact ⟨wtR K Bs p q bl v h0 (by omega), rfl⟩
theorem wmR (s : List Int) (hw : Bit.Wd s) (hs : s.length ≤ 1000) : ∃ ys, Wf Tryd.prog H 64 [.agg [.sl (K.map encI), .sl (Bs.map encI), goI p, goI q, .sl bl], .sl (s.map encU), .clo 66 [.pt 0 0 0]] [.box [.sl (K.map encI), .sl (Bs.map encI), goI p, goI q, .sl bl]] = some (.os 1 0 (U.refL K 1 s).length, [.box [.sl (K.map encI), .sl (Bs.map encI), goI p, goI q, .sl bl], .arr 1 ((U.refL K 1 s).map encI ++ ys)], []) := by
  have hl : (Bit.toI (Bit.numsL s s.length)).length < 1000000 := by rw [Bit.toI_len]; have := Bit.numsL_length s s.length; omega
  obtain ⟨ys, hd⟩ := wdA 66 (K.map encI) (Bs.map encI) p q bl (U.delK K 1) (Bit.toI (Bit.numsL s s.length)) hl (fun m hm => wsR K Bs p q bl m (by
    obtain ⟨x, _, rfl⟩ := List.mem_map.1 hm; omega))
  rw [some_ref] at hd
  exact ⟨ys, runK (tmR s (Bit.toI (Bit.numsL s s.length)) K Bs p q bl (U.refL K 1 s).length _ _) ⟨wl83 s hw hs, hd, rfl⟩⟩
theorem wRefs (s : List Int) (hw : Bit.Wd s) (hs : s.length ≤ 1000) : Wf Tryd.prog H 37 [.agg [.sl (K.map encI), .sl (Bs.map encI), goI p, goI q, .sl bl], .sl (s.map encU)] [] = some (.sl ((U.refL K 1 s).map encI), [], []) := by
  obtain ⟨ys, h⟩ := wmR K Bs p q bl s hw hs
  have e : List.take (U.refL K 1 s).length (List.drop 0 ((U.refL K 1 s).map encI ++ ys)) = (U.refL K 1 s).map encI := by
    rw [List.drop_zero]; exact List.take_left' (List.length_map _)
  refine runK (tRefs s (U.refL K 1 s).length ((U.refL K 1 s).map encI ++ ys) K Bs p q bl _) ?_
  rw [e]
  exact ⟨h, rfl⟩
theorem wtD (v : Int) (h0 : 0 ≤ v) (h1 : v < K.length) : Wf Tryd.prog H 68 [goI v, .pt 0 0 0] [.box [.sl (K.map encI), .sl (Bs.map encI), goI p, goI q, .sl bl]] = some (goB (U.nt K v.toNat == 2), [.box [.sl (K.map encI), .sl (Bs.map encI), goI p, goI q, .sl bl]], []) := by
  refine runK (ttD v K Bs p q bl _) ?_
  rw [rowI (show v.toNat < K.length by omega), getI (show v.toNat < K.length by omega)]
  exact ⟨⟨h0, rfl⟩, rfl⟩
theorem wsD (v : Int) (h0 : 0 ≤ v) : Wf Tryd.prog H 84 [goI v, .pt 0 0 0, .pt 1 0 0] [.box [.sl (K.map encI), .sl (Bs.map encI), goI p, goI q, .sl bl], .box [.clo 68 [.pt 2 0 0]], .box [.sl (K.map encI), .sl (Bs.map encI), goI p, goI q, .sl bl]] = some (goB (U.delK K 2 v), [.box [.sl (K.map encI), .sl (Bs.map encI), goI p, goI q, .sl bl], .box [.clo 68 [.pt 2 0 0]], .box [.sl (K.map encI), .sl (Bs.map encI), goI p, goI q, .sl bl]], []) := by
  refine runK (tsD v K Bs p q bl _) ?_
  unfold U.delK
  rw [List.length_map]
  by_cases h : v ≥ (K.length : Int)
  · rw [decide_eq_true h]; exact rfl
  · rw [decide_eq_false h, kindR_map h0 (by omega)]
    exact ⟨wtD K Bs p q bl v h0 (by omega), rfl⟩
theorem wmD (s : List Int) (hw : Bit.Wd s) (hs : s.length ≤ 1000) : ∃ ys, Wf Tryd.prog H 64 [.agg [.sl (K.map encI), .sl (Bs.map encI), goI p, goI q, .sl bl], .sl (s.map encU), .clo 68 [.pt 0 0 0]] [.box [.sl (K.map encI), .sl (Bs.map encI), goI p, goI q, .sl bl]] = some (.os 1 0 (U.refL K 2 s).length, [.box [.sl (K.map encI), .sl (Bs.map encI), goI p, goI q, .sl bl], .arr 1 ((U.refL K 2 s).map encI ++ ys)], []) := by
  have hl : (Bit.toI (Bit.numsL s s.length)).length < 1000000 := by rw [Bit.toI_len]; have := Bit.numsL_length s s.length; omega
  obtain ⟨ys, hd⟩ := wdA 68 (K.map encI) (Bs.map encI) p q bl (U.delK K 2) (Bit.toI (Bit.numsL s s.length)) hl (fun m hm => wsD K Bs p q bl m (by
    obtain ⟨x, _, rfl⟩ := List.mem_map.1 hm; omega))
  rw [some_ref] at hd
  exact ⟨ys, runK (tmD s (Bit.toI (Bit.numsL s s.length)) K Bs p q bl (U.refL K 2 s).length _ _) ⟨wl83 s hw hs, hd, rfl⟩⟩
theorem wDers (s : List Int) (hw : Bit.Wd s) (hs : s.length ≤ 1000) : Wf Tryd.prog H 39 [.agg [.sl (K.map encI), .sl (Bs.map encI), goI p, goI q, .sl bl], .sl (s.map encU)] [] = some (.sl ((U.refL K 2 s).map encI), [], []) := by
  obtain ⟨ys, h⟩ := wmD K Bs p q bl s hw hs
  have e : List.take (U.refL K 2 s).length (List.drop 0 ((U.refL K 2 s).map encI ++ ys)) = (U.refL K 2 s).map encI := by
    rw [List.drop_zero]; exact List.take_left' (List.length_map _)
  refine runK (tDers s (U.refL K 2 s).length ((U.refL K 2 s).map encI ++ ys) K Bs p q bl _) ?_
  rw [e]
  exact ⟨h, rfl⟩
theorem wsB (v : Int) : Wf Tryd.prog H 84 [goI v, .pt 0 0 0, .pt 1 0 0] [.box [.sl (K.map encI), .sl (Bs.map encI), goI p, goI q, .sl bl], .box [.clo 65 []]] = some (goB (U.delA K v), [.box [.sl (K.map encI), .sl (Bs.map encI), goI p, goI q, .sl bl], .box [.clo 65 []]], []) := by
  refine runK (tsB v K Bs p q bl _) ?_
  unfold U.delA
  rw [List.length_map]
  by_cases h : v ≥ (K.length : Int)
  · rw [decide_eq_true h]; exact rfl
  · rw [decide_eq_false h]
    exact ⟨runK (ttB v _) rfl, rfl⟩
theorem wmB (s : List Int) (hw : Bit.Wd s) (hs : s.length ≤ 1000) : ∃ ys, Wf Tryd.prog H 64 [.agg [.sl (K.map encI), .sl (Bs.map encI), goI p, goI q, .sl bl], .sl (s.map encU), .clo 65 []] [] = some (.os 0 0 (U.inL K s).length, [.arr 1 ((U.inL K s).map encI ++ ys)], []) := by
  have hl : (Bit.toI (Bit.numsL s s.length)).length < 1000000 := by rw [Bit.toI_len]; have := Bit.numsL_length s s.length; omega
  obtain ⟨ys, hd⟩ := wdB (K.map encI) (Bs.map encI) p q bl (U.delA K) (Bit.toI (Bit.numsL s s.length)) hl (fun m hm => wsB K Bs p q bl m)
  rw [some_in] at hd
  exact ⟨ys, runK (tmB s (Bit.toI (Bit.numsL s s.length)) K Bs p q bl (U.inL K s).length _ _) ⟨wl83 s hw hs, hd, rfl⟩⟩
variable (O : KOk K Bs)
include O
theorem loopClose (d : List Int) (hd2 : d.length ≤ 1000) (hd : ∀ x ∈ d, 0 ≤ x ∧ x < K.length) : ∀ (e i : Nat) (s0 : List Int), i + e = d.length → Bit.Wd s0 → s0.length ≤ 1000 →
    LoopTo Tryd.prog H (H 34) 0 (loopOf Tryd.prog 34 3) (mkS 30 [(2, .pt 0 0 0), (5, .sl (s0.map encU)), (14, .sl (d.map encI)), (15, goI d.length), (16, goI i)] [.box [.sl (K.map encI), .sl (Bs.map encI), goI p, goI q, .sl bl]])
      (.exit 0, mkS 30 [(5, .sl ((U.addB Bs (d.drop i) s0).map encU))] [.dead])
  | 0, i, s0, he, hw, hl => by
    rw [List.drop_of_length_le (by omega)]
    refine turnK (tClose_3 s0 d d.length i 0 [] K Bs p q bl _) ?_
    rw [decide_eq_false (by omega)]; exact rfl
  | e + 1, i, s0, he, hw, hl => by
    have hi : i < d.length := by omega
    have ed : d.drop i = U.nt d i :: d.drop (i + 1) := drop_cons' d hi
    obtain ⟨x0, x1⟩ := hd (U.nt d i) (getD_mem hi)
    have hb := O.blen
    have hx : (U.nt d i).toNat < Bs.length := by omega
    have ih := loopClose d hd2 hd e (i + 1) (U.withL s0 [U.nt Bs (U.nt d i).toNat]) (by omega) (wdW hw) (lenW _ _ hl)
    have h16 := wb16 s0 [U.nt Bs (U.nt d i).toNat] hw hl (by simp)
    have et : List.take (U.withL s0 [U.nt Bs (U.nt d i).toNat]).length (List.drop 0 (([U.nt Bs (U.nt d i).toNat].foldl Bit.putL s0).map encU)) = (U.withL s0 [U.nt Bs (U.nt d i).toNat]).map encU := by
      rw [List.drop_zero, ← List.map_take]; unfold U.withL; rw [neat_take]
    have e1 : rdI (rowAt (d.map encI) i) 0 = U.nt d i := by rw [rowI hi]; rfl
    have e2 : rdI (rowAt (Bs.map encI) (U.nt d i).toNat) 0 = U.nt Bs (U.nt d i).toNat := by rw [rowI hx]; rfl
    rw [ed]
    refine turnK (tClose_3 s0 d d.length i (U.withL s0 [U.nt Bs (U.nt d i).toNat]).length ([U.nt Bs (U.nt d i).toNat].foldl Bit.putL s0) K Bs p q bl _) ?_
    rw [decide_eq_true (by omega), e1, getI hi, e2, getI hx, et, wrapS hi (by omega)]
    exact ⟨⟨by omega, rfl⟩, ⟨by omega, rfl⟩, h16, ih⟩
theorem wClose (s : List Int) (hw : Bit.Wd s) (hs : s.length ≤ 1000) : Wf Tryd.prog H 34 [.agg [.sl (K.map encI), .sl (Bs.map encI), goI p, goI q, .sl bl], .sl (s.map encU)] [] = some (.sl ((U.closeL K Bs s).map encU), [], []) := by
  have hK := O.len
  obtain ⟨ys, h⟩ := wmB K Bs p q bl s hw hs
  have e : List.take (U.inL K s).length (List.drop 0 ((U.inL K s).map encI ++ ys)) = (U.inL K s).map encI := by
    rw [List.drop_zero]; exact List.take_left' (List.length_map _)
  have hil := selP_len (fun v => Bit.tb s v) K.length 0
  have hrl := selP_len (fun v => (U.nt K v == 2) && Bit.tb s v) K.length 0
  have h63 := wl63 (U.inL K s) (by unfold U.inL; omega)
  have hD := wDers K Bs p q bl s hw hs
  have h3 := loopClose K Bs p q bl O (U.refL K 2 s) (by unfold U.refL; omega) (fun x hx => by
    unfold U.refL at hx
    obtain ⟨y, rfl, _, h2, _⟩ := (selP_mem _ _ _ x).1 hx
    omega) (U.refL K 2 s).length 0 (U.withL [] (U.inL K s)) (by omega) (wdW Bit.Wd.nil) (lenW _ _ (by simp))
  rw [List.drop_zero] at h3
  refine runK (tClose s (U.refL K 2 s) (U.inL K s).length ((U.inL K s).map encI ++ ys) 0 (U.withL [] (U.inL K s)) (U.closeL K Bs s) K Bs p q bl _) ?_
  rw [e, List.length_map]
  exact ⟨h, h63, hD, h3, rfl⟩
omit O in
theorem loopOf12 (s : List Int) (hw : Bit.Wd s) (hs : s.length ≤ 1000) (c : Int) (hK : K.length ≤ 48) : ∀ (d v : Nat) (l : List Int), v + d = K.length → l.length ≤ v →
    LoopTo Tryd.prog H (H 67) 0 (loopOf Tryd.prog 67 3) (mkS 33 [(1, .sl (s.map encU)), (2, goI c), (3, .pt 0 0 0), (7, .os 1 0 l.length), (8, goI v)] [.box [.sl (K.map encI), .sl (Bs.map encI), goI p, goI q, .sl bl], .arr 1 (l.map encI)])
      (.exit 0, mkS 33 [(7, .os 1 0 (l ++ U.selP (fun v => (U.nt K v == c) && Bit.tb s v) d v).length)] [.dead, .arr 1 ((l ++ U.selP (fun v => (U.nt K v == c) && Bit.tb s v) d v).map encI)])
  | 0, v, l, hd, hl => by
    have e0 : l ++ U.selP (fun v => (U.nt K v == c) && Bit.tb s v) 0 v = l := List.append_nil _
    rw [e0]
    refine turnK (tOf_3 s l c v false K Bs p q bl _) ?_
    rw [List.length_map, decide_eq_false (by omega)]; exact rfl
  | d + 1, v, l, hd, hl => by
    have hv : v < K.length := by omega
    have h26 := wr26 hw (v : Int) (by omega) (by omega)
    have eh : Bit.hasB s (v : Int) = Bit.tb s v := by unfold Bit.hasB; rw [decide_eq_true (by omega), Int.toNat_natCast]; rfl
    have es : U.selP (fun v => (U.nt K v == c) && Bit.tb s v) (d + 1) v = (if ((U.nt K v == c) && Bit.tb s v) = true then [(v : Int)] else []) ++ U.selP (fun v => (U.nt K v == c) && Bit.tb s v) d (v + 1) := rfl
    have e1 : rdI (rowAt (K.map encI) v) 0 = U.nt K v := by rw [rowI hv]; rfl
    rw [eh] at h26
    rw [es]
    refine turnK (tOf_3 s l c v (Bit.tb s v) K Bs p q bl _) ?_
    rw [List.length_map, decide_eq_true (by omega), e1, getI hv, wrapS hv (by omega)]
    refine ⟨⟨by omega, rfl⟩, ?_⟩
    have no : LoopTo Tryd.prog H (H 67) 0 (loopOf Tryd.prog 67 3) (mkS 33 [(1, .sl (s.map encU)), (2, goI c), (3, .pt 0 0 0), (7, .os 1 0 l.length), (8, goI ((v + 1 : Nat) : Int))] [.box [.sl (K.map encI), .sl (Bs.map encI), goI p, goI q, .sl bl], .arr 1 (l.map encI)]) _ := loopOf12 s hw hs c hK d (v + 1) l (by omega) (by omega)
    cases hc : (U.nt K v == c) with
    | false =>
      rw [Bool.false_and, if_neg (by simp), List.nil_append]
      exact no
    | true =>
      rw [Bool.true_and]
      refine ⟨h26, ?_⟩
      cases hb : Bit.tb s v with
      | false =>
        rw [if_neg (by simp), List.nil_append]
        exact no
      | true =>
        have ih := loopOf12 s hw hs c hK d (v + 1) (l ++ [(v : Int)]) (by omega) (by rw [List.length_append, List.length_singleton]; omega)
        have e1 : (l ++ [(v : Int)]).length = l.length + 1 := List.length_append
        have e2 : (l ++ [(v : Int)]).map encI = l.map encI ++ [[goI (v : Int)]] := List.map_append
        rw [e1, e2, List.append_assoc] at ih
        rw [if_pos rfl]
        exact ⟨rfl, ⟨by rw [List.length_map], by omega⟩, ih⟩
omit O in
theorem wOf12 (s : List Int) (hw : Bit.Wd s) (hs : s.length ≤ 1000) (c : Int) (hK : K.length ≤ 48) : Wf Tryd.prog H 67 [.agg [.sl (K.map encI), .sl (Bs.map encI), goI p, goI q, .sl bl], .sl (s.map encU), goI c] [] = some (.os 0 0 (U.refL K c s).length, [.arr 1 ((U.refL K c s).map encI)], []) := by
  have h := loopOf12 K Bs p q bl s hw hs c hK K.length 0 [] (by omega) (by simp)
  rw [List.nil_append] at h
  exact runK (tOf s (U.refL K c s) c K Bs p q bl _) ⟨h, rfl⟩
omit O in
theorem wORefs (s : List Int) (hw : Bit.Wd s) (hs : s.length ≤ 1000) (hK : K.length ≤ 48) : Wf Tryd.prog H 38 [.agg [.sl (K.map encI), .sl (Bs.map encI), goI p, goI q, .sl bl], .sl (s.map encU)] [] = some (.sl ((U.refL K 1 s).map encI), [], []) := by
  refine runK (tORefs s (U.refL K 1 s) K Bs p q bl _) ?_
  rw [take_map]
  exact ⟨wOf12 K Bs p q bl s hw hs 1 hK, rfl⟩
omit O in
theorem wODers (s : List Int) (hw : Bit.Wd s) (hs : s.length ≤ 1000) (hK : K.length ≤ 48) : Wf Tryd.prog H 40 [.agg [.sl (K.map encI), .sl (Bs.map encI), goI p, goI q, .sl bl], .sl (s.map encU)] [] = some (.sl ((U.refL K 2 s).map encI), [], []) := by
  refine runK (tODers s (U.refL K 2 s) K Bs p q bl _) ?_
  rw [take_map]
  exact ⟨wOf12 K Bs p q bl s hw hs 2 hK, rfl⟩
theorem withR_one (s : List Int) (n : Int) : U.withR (s.map encU) [[goI n]] = (U.withL s [n]).map encU := by
  unfold U.withR
  rw [decU_map]; rfl
theorem loopOClose (s : List Int) (hw : Bit.Wd s) (hs : s.length ≤ 1000) : ∀ (d v : Nat) (o : List Int), v + d = K.length → Bit.Wd o → o.length ≤ 1000 →
    LoopTo Tryd.prog H (H 35) 0 (loopOf Tryd.prog 35 3) (mkS 38 [(1, .sl (s.map encU)), (2, .pt 0 0 0), (5, .sl (o.map encU)), (6, goI v)] [.box [.sl (K.map encI), .sl (Bs.map encI), goI p, goI q, .sl bl]])
      (.exit 0, mkS 38 [(5, .sl ((U.closeF K Bs s d v o).map encU))] [.dead])
  | 0, v, o, hd, hwo, hl => by
    refine turnK (tOClose_3 s o v false K Bs p q bl _) ?_
    rw [List.length_map, decide_eq_false (by omega)]; exact rfl
  | d + 1, v, o, hd, hwo, hl => by
    have hK := O.len
    have hbl := O.blen
    have hv : v < K.length := by omega
    have hv2 : v < Bs.length := by omega
    have h26 := wr26 hw (v : Int) (by omega) (by omega)
    have eh : Bit.hasB s (v : Int) = Bit.tb s v := by unfold Bit.hasB; rw [decide_eq_true (by omega), Int.toNat_natCast]; rfl
    have e1 : rdI (rowAt (K.map encI) v) 0 = U.nt K v := by rw [rowI hv]; rfl
    have e2 : rdI (rowAt (Bs.map encI) v) 0 = U.nt Bs v := by rw [rowI hv2]; rfl
    have h31 := wr31 o [(v : Int)] hwo hl (by simp)
    have h31b := wr31 (U.withL o [(v : Int)]) [U.nt Bs v] (wdW hwo) (lenW _ _ hl) (by simp)
    rw [eh] at h26
    unfold U.closeF
    refine turnK (tOClose_3 s o v (Bit.tb s v) K Bs p q bl _) ?_
    rw [List.length_map, decide_eq_true (by omega), e1, getI hv, e2, getI hv2, wrapS hv (by omega), withR_one K Bs O, withR_one K Bs O]
    refine ⟨h26, ?_⟩
    cases ht : Bit.tb s v with
    | false =>
      rw [if_neg (by simp)]
      exact loopOClose s hw hs d (v + 1) o (by omega) hwo hl
    | true =>
      rw [if_pos rfl]
      refine ⟨h31, ⟨by omega, rfl⟩, ?_⟩
      cases hc : (U.nt K v == 2) with
      | false =>
        rw [if_neg (by simp)]
        exact loopOClose s hw hs d (v + 1) _ (by omega) (wdW hwo) (lenW _ _ hl)
      | true =>
        rw [if_pos rfl]
        exact ⟨⟨by omega, rfl⟩, h31b, loopOClose s hw hs d (v + 1) _ (by omega) (wdW (wdW hwo)) (lenW _ _ (lenW _ _ hl))⟩
theorem wOClose (s : List Int) (hw : Bit.Wd s) (hs : s.length ≤ 1000) : Wf Tryd.prog H 35 [.agg [.sl (K.map encI), .sl (Bs.map encI), goI p, goI q, .sl bl], .sl (s.map encU)] [] = some (.sl ((U.closeL K Bs s).map encU), [], []) := by
  have h := loopOClose K Bs p q bl O s hw hs K.length 0 [] (by omega) Bit.Wd.nil (by simp)
  obtain ⟨_, hl, _⟩ := closeF_ok O s K.length 0 [] (by omega) Bit.Wd.nil (by simp)
  have hn := wr58 (U.closeF K Bs s K.length 0 []) (by omega)
  refine runK (tOClose s (U.closeF K Bs s K.length 0 []) K Bs p q bl _) ?_
  rw [neatR_map, take_all, List.length_map, close_eq O s]
  rw [close_eq O s] at hn
  exact ⟨h, hn, rfl⟩
end
end Go.Proofs.YtdnekkkpngnmkaaDoor.E
