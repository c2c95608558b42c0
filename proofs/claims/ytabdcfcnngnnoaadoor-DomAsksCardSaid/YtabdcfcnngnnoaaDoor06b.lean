/- Functions, by what the evaluator asks; the theorems t.. were printed by show.txt, a program of this session. -/
import Derived.Test.YtabdcfcnngnnoaaDoor06e
import Derived.Test.YtabdcfcnngnnoaaDoorB1s
set_option linter.unusedVariables false
set_option linter.unusedSectionVars false
set_option linter.unusedSimpArgs false
set_option maxRecDepth 100000
namespace Go.Proofs.YtabdcfcnngnnoaaDoor.E
open Go
namespace U
def thR (dp : List (List AV)) (x : Int) : Bool := decide (x ≥ 0) && (decide (x < dp.length) && decide (rdI (rowAt dp x.toNat) 0 ≥ 0))
end U
def tS (n : Nat) (ab dp : List Int) : List Row := [.box [.os 1 0 n, .os 2 0 n], .arr 1 (ab.map encI), .arr 1 (dp.map encI)]
def Fd49 (k : Nat) (x : List Int) (rb : Bool) (s : List Int) : CallT := fun f args sto => match f, args, sto with
 | 42, [_, .v (.int _ x)], [_, _, .arr _ d] => .is (goB (U.thR d x), sto, [])
 | 39, _, _ => .is (goB rb, sto, [])
 | 41, _, _ => .is (.sl (s.map encU), sto, [])
 | 54, _, _ => .is (.sl (x.map encU), [], [])
 | 56, _, _ => .is (.os 0 0 k, [.arr 1 (x.map encU)], [])
 | 43, _, _ => .is (goB rb, [], [])
 | _, _, _ => .no
def Fd31 (n : Nat) (ab dp : List Int) (rb : Bool) (s : List Int) : CallT := fun f args sto => match f, args, sto with
 | 38, _, _ => .is (.pt 0 0 0, tS n ab dp, [])
 | 42, [_, .v (.int _ x)], [_, _, .arr _ d] => .is (goB (U.thR d x), sto, [])
 | 39, _, _ => .is (goB rb, sto, [])
 | 41, _, _ => .is (.sl (s.map encU), sto, [])
 | _, _, _ => .no
def Ld49 (a b : Int) : Nat → St → LT := fun id st => .is (.exit 0) (mkS 42 [(1, goI a), (2, goI b)] st.2)
def Ld53 (w : List Int) : Nat → St → LT := fun id st => .is (.exit 0) (mkS 33 [(5, .sl (w.map encU))] st.2)
def Ld34 (l : List Int) : Nat → St → LT := fun id st => .is (.exit 0) (mkS 32 [(5, .os 4 0 l.length)] [.dead, .dead, .dead, .dead, .arr 1 (l.map encI)])
def Ld36 (b : Int) : Nat → St → LT := fun id st => .is (.exit 0) (mkS 36 [(2, goI b)] [.dead, .dead, .dead, .dead])

theorem td52 (n : Nat) (ab : List Int) (dp : List Int) (x : Int) (r : AV × List Row × List Nat) : (runT Tryd.prog H (fun f args sto => CT.of (F0 f args sto)) L0 false 42 [AV.pt 0 0 0, goI x] (tS n ab dp) fun q => q = r) = (TB (decide (x ≥ 0))
 (TB (decide (x < (↑n : Int)))
 ((0 ≤ x ∧ x < (↑n : Int) ∧ 0 + Int.toNat x < List.length (List.map encI dp)) ∧
 cutAt 1 0 (List.map encI dp)[0 + Int.toNat x]? = some [goI (rdI (rowAt (List.map encI dp) (0 + Int.toNat x)) 0)] ∧
 (goB (decide (rdI (rowAt (List.map encI dp) (0 + Int.toNat x)) 0 ≥ 0)),
 [Row.box [AV.os 1 0 n, AV.os 2 0 n], Row.arr 1 (List.map encI ab), Row.arr 1 (List.map encI dp)], []) =
 r)
 ((goB false, [Row.box [AV.os 1 0 n, AV.os 2 0 n], Row.arr 1 (List.map encI ab), Row.arr 1 (List.map encI dp)], []) =
 r))
 ((goB false, [Row.box [AV.os 1 0 n, AV.os 2 0 n], Row.arr 1 (List.map encI ab), Row.arr 1 (List.map encI dp)], []) =
 r)) := by kernel_rfl
theorem td49 (n : Nat) (ab : List Int) (dp : List Int) (a : Int) (b : Int) (c : Int) (r : AV × List Row × List Nat) : (runT Tryd.prog H (Fd49 0 [] false []) (Ld49 a c) false 39 [AV.pt 0 0 0, goI a, goI b] (tS n ab dp) fun q => q = r) = (Wf Tryd.prog H 42 [AV.pt 0 0 0, goI a]
 [Row.box [AV.os 1 0 n, AV.os 2 0 n], Row.arr 1 (List.map encI ab), Row.arr 1 (List.map encI dp)] =
 some
 (goB (U.thR (List.map encI dp) a),
 [Row.box [AV.os 1 0 n, AV.os 2 0 n], Row.arr 1 (List.map encI ab), Row.arr 1 (List.map encI dp)], []) ∧
 TB (!U.thR (List.map encI dp) a)
 ((goB false, [Row.box [AV.os 1 0 n, AV.os 2 0 n], Row.arr 1 (List.map encI ab), Row.arr 1 (List.map encI dp)], []) =
 r)
 (Wf Tryd.prog H 42 [AV.pt 0 0 0, goI b]
 [Row.box [AV.os 1 0 n, AV.os 2 0 n], Row.arr 1 (List.map encI ab), Row.arr 1 (List.map encI dp)] =
 some
 (goB (U.thR (List.map encI dp) b),
 [Row.box [AV.os 1 0 n, AV.os 2 0 n], Row.arr 1 (List.map encI ab), Row.arr 1 (List.map encI dp)], []) ∧
 TB (!U.thR (List.map encI dp) b)
 ((goB false, [Row.box [AV.os 1 0 n, AV.os 2 0 n], Row.arr 1 (List.map encI ab), Row.arr 1 (List.map encI dp)],
 []) =
 r)
 (LoopTo Tryd.prog H (H 39) 3 (loopOf Tryd.prog 39 3)
 (mkS 42 [(0, AV.pt 0 0 0), (1, goI a), (2, goI b)]
 [Row.box [AV.os 1 0 n, AV.os 2 0 n], Row.arr 1 (List.map encI ab), Row.arr 1 (List.map encI dp)])
 (Ex.exit 0,
 mkS 42 [(1, goI a), (2, goI c)]
 [Row.box [AV.os 1 0 n, AV.os 2 0 n], Row.arr 1 (List.map encI ab), Row.arr 1 (List.map encI dp)]) ∧
 (goB (a == c),
 [Row.box [AV.os 1 0 n, AV.os 2 0 n], Row.arr 1 (List.map encI ab), Row.arr 1 (List.map encI dp)], []) =
 r))) := by kernel_rfl
theorem td49_3 (n : Nat) (ab : List Int) (dp : List Int) (a : Int) (b : Int) (r : Ex × St) : (turnT Tryd.prog H (fun f args sto => CT.of (F0 f args sto)) L0 false (H 39) 3 (loopOf Tryd.prog 39 3)
 (mkS 42 [(0, AV.pt 0 0 0), (1, goI a), (2, goI b)] (tS n ab dp)) r) = ((0 ≤ b ∧ b < (↑n : Int) ∧ 0 + Int.toNat b < List.length (List.map encI dp)) ∧
 cutAt 1 0 (List.map encI dp)[0 + Int.toNat b]? = some [goI (rdI (rowAt (List.map encI dp) (0 + Int.toNat b)) 0)] ∧
 (0 ≤ a ∧ a < (↑n : Int) ∧ 0 + Int.toNat a < List.length (List.map encI dp)) ∧
 cutAt 1 0 (List.map encI dp)[0 + Int.toNat a]? = some [goI (rdI (rowAt (List.map encI dp) (0 + Int.toNat a)) 0)] ∧
 TB
 (decide
 (rdI (rowAt (List.map encI dp) (0 + Int.toNat b)) 0 > rdI (rowAt (List.map encI dp) (0 + Int.toNat a)) 0))
 ((0 ≤ b ∧ b < (↑n : Int) ∧ 0 + Int.toNat b < List.length (List.map encI ab)) ∧
 cutAt 1 0 (List.map encI ab)[0 + Int.toNat b]? =
 some [goI (rdI (rowAt (List.map encI ab) (0 + Int.toNat b)) 0)] ∧
 LoopTo Tryd.prog H (H 39) 3 (loopOf Tryd.prog 39 3)
 (mkS 42 [(0, AV.pt 0 0 0), (1, goI a), (2, goI (rdI (rowAt (List.map encI ab) (0 + Int.toNat b)) 0))]
 [Row.box [AV.os 1 0 n, AV.os 2 0 n], Row.arr 1 (List.map encI ab), Row.arr 1 (List.map encI dp)])
 r)
 ((Ex.exit 0,
 mkS 42 [(1, goI a), (2, goI b)]
 [Row.box [AV.os 1 0 n, AV.os 2 0 n], Row.arr 1 (List.map encI ab), Row.arr 1 (List.map encI dp)]) =
 r)) := by kernel_rfl
theorem td53 (n : Nat) (ab : List Int) (dp : List Int) (b : Int) (k : Nat) (x : List Int) (w : List Int) (r : AV × List Row × List Nat) : (runT Tryd.prog H (Fd49 k x false []) (Ld53 w) false 41 [AV.pt 0 0 0, goI b] (tS n ab dp) fun q => q = r) = (Wf Tryd.prog H 42 [AV.pt 0 0 0, goI b]
 [Row.box [AV.os 1 0 n, AV.os 2 0 n], Row.arr 1 (List.map encI ab), Row.arr 1 (List.map encI dp)] =
 some
 (goB (U.thR (List.map encI dp) b),
 [Row.box [AV.os 1 0 n, AV.os 2 0 n], Row.arr 1 (List.map encI ab), Row.arr 1 (List.map encI dp)], []) ∧
 TB (!U.thR (List.map encI dp) b)
 ((AV.sl [], [Row.box [AV.os 1 0 n, AV.os 2 0 n], Row.arr 1 (List.map encI ab), Row.arr 1 (List.map encI dp)], []) =
 r)
 (Wf Tryd.prog H 54 [AV.sl [[goI b]]] [] = some (AV.sl (List.map encU x), [], []) ∧
 LoopTo Tryd.prog H (H 41) 3 (loopOf Tryd.prog 41 4)
 (mkS 33 [(0, AV.pt 0 0 0), (1, goI b), (5, AV.sl (List.map encU x))]
 [Row.box [AV.os 1 0 n, AV.os 2 0 n], Row.arr 1 (List.map encI ab), Row.arr 1 (List.map encI dp)])
 (Ex.exit 0,
 mkS 33 [(5, AV.sl (List.map encU w))]
 [Row.box [AV.os 1 0 n, AV.os 2 0 n], Row.arr 1 (List.map encI ab), Row.arr 1 (List.map encI dp)]) ∧
 (AV.sl (List.map encU w),
 [Row.box [AV.os 1 0 n, AV.os 2 0 n], Row.arr 1 (List.map encI ab), Row.arr 1 (List.map encI dp)], []) =
 r)) := by kernel_rfl
theorem td53_4 (n : Nat) (ab : List Int) (dp : List Int) (b : Int) (s : List Int) (k : Nat) (x : List Int) (r : Ex × St) : (turnT Tryd.prog H (Fd49 k x false []) L0 false (H 41) 3 (loopOf Tryd.prog 41 4)
 (mkS 33 [(0, AV.pt 0 0 0), (1, goI b), (5, AV.sl (List.map encU s))] (tS n ab dp)) r) = ((0 ≤ b ∧ b < (↑n : Int) ∧ 0 + Int.toNat b < List.length (List.map encI ab)) ∧
 cutAt 1 0 (List.map encI ab)[0 + Int.toNat b]? = some [goI (rdI (rowAt (List.map encI ab) (0 + Int.toNat b)) 0)] ∧
 TB (decide (rdI (rowAt (List.map encI ab) (0 + Int.toNat b)) 0 ≥ 0))
 ((0 ≤ b ∧ b < (↑n : Int) ∧ 0 + Int.toNat b < List.length (List.map encI ab)) ∧
 cutAt 1 0 (List.map encI ab)[0 + Int.toNat b]? =
 some [goI (rdI (rowAt (List.map encI ab) (0 + Int.toNat b)) 0)] ∧
 Wf Tryd.prog H 56 [AV.sl (List.map encU s), AV.sl [[goI (rdI (rowAt (List.map encI ab) (0 + Int.toNat b)) 0)]]]
 [] =
 some (AV.os 0 0 k, [Row.arr 1 (List.map encU x)], []) ∧
 LoopTo Tryd.prog H (H 41) 3 (loopOf Tryd.prog 41 4)
 (mkS 33
 [(0, AV.pt 0 0 0), (1, goI (rdI (rowAt (List.map encI ab) (0 + Int.toNat b)) 0)),
 (5, AV.sl (List.take k (List.drop 0 (List.map encU x))))]
 [Row.box [AV.os 1 0 n, AV.os 2 0 n], Row.arr 1 (List.map encI ab), Row.arr 1 (List.map encI dp)])
 r)
 ((Ex.exit 0,
 mkS 33 [(5, AV.sl (List.map encU s))]
 [Row.box [AV.os 1 0 n, AV.os 2 0 n], Row.arr 1 (List.map encI ab), Row.arr 1 (List.map encI dp)]) =
 r)) := by kernel_rfl
theorem td31 (ks : List (List AV)) (bs : List (List AV)) (p : Int) (q : Int) (bl : List XB) (a : Int) (b : Int) (n : Nat) (ab : List Int) (dp : List Int) (rb : Bool) (r : AV × List Row × List Nat) : (runT Tryd.prog H (Fd31 n ab dp rb []) L0 false 11
 [AV.agg [AV.sl ks, AV.sl bs, goI p, goI q, AV.sl (List.map encB bl)], goI a, goI b] [] fun q => q = r) = (Wf Tryd.prog H 38 [AV.agg [AV.sl ks, AV.sl bs, goI p, goI q, AV.sl (List.map encB bl)]] [] =
 some
 (AV.pt 0 0 0, [Row.box [AV.os 1 0 n, AV.os 2 0 n], Row.arr 1 (List.map encI ab), Row.arr 1 (List.map encI dp)],
 []) ∧
 Wf Tryd.prog H 39 [AV.pt 0 0 0, goI a, goI b]
 [Row.box [AV.os 1 0 n, AV.os 2 0 n], Row.arr 1 (List.map encI ab), Row.arr 1 (List.map encI dp)] =
 some
 (goB rb, [Row.box [AV.os 1 0 n, AV.os 2 0 n], Row.arr 1 (List.map encI ab), Row.arr 1 (List.map encI dp)], []) ∧
 (goB rb, [], []) = r) := by kernel_rfl
theorem td32 (ks : List (List AV)) (bs : List (List AV)) (p : Int) (q : Int) (bl : List XB) (n : Nat) (ab : List Int) (dp : List Int) (r : AV × List Row × List Nat) : (runT Tryd.prog H (Fd31 n ab dp false []) L0 false 35
 [AV.agg [AV.sl ks, AV.sl bs, goI p, goI q, AV.sl (List.map encB bl)]] [] fun q => q = r) = (Wf Tryd.prog H 38 [AV.agg [AV.sl ks, AV.sl bs, goI p, goI q, AV.sl (List.map encB bl)]] [] =
 some
 (AV.pt 0 0 0, [Row.box [AV.os 1 0 n, AV.os 2 0 n], Row.arr 1 (List.map encI ab), Row.arr 1 (List.map encI dp)],
 []) ∧
 (AV.os 0 0 n, [Row.arr 1 (List.map encI ab)], []) = r) := by kernel_rfl
theorem td36 (ks : List (List AV)) (bs : List (List AV)) (p : Int) (q : Int) (bl : List XB) (a : Int) (b : Int) (c : Int) (n : Nat) (ab : List Int) (dp : List Int) (s : List Int) (r : AV × List Row × List Nat) : (runT Tryd.prog H (Fd31 n ab dp false s) (Ld36 c) false 16
 [AV.agg [AV.sl ks, AV.sl bs, goI p, goI q, AV.sl (List.map encB bl)], goI a, goI b] [] fun q => q = r) = (Wf Tryd.prog H 38 [AV.agg [AV.sl ks, AV.sl bs, goI p, goI q, AV.sl (List.map encB bl)]] [] =
 some
 (AV.pt 0 0 0, [Row.box [AV.os 1 0 n, AV.os 2 0 n], Row.arr 1 (List.map encI ab), Row.arr 1 (List.map encI dp)],
 []) ∧
 Wf Tryd.prog H 42 [AV.pt 0 0 0, goI a]
 [Row.box [AV.os 1 0 n, AV.os 2 0 n], Row.arr 1 (List.map encI ab), Row.arr 1 (List.map encI dp)] =
 some
 (goB (U.thR (List.map encI dp) a),
 [Row.box [AV.os 1 0 n, AV.os 2 0 n], Row.arr 1 (List.map encI ab), Row.arr 1 (List.map encI dp)], []) ∧
 TB (!U.thR (List.map encI dp) a) ((goI (-1), [], []) = r)
 (Wf Tryd.prog H 42 [AV.pt 0 0 0, goI b]
 [Row.box [AV.os 1 0 n, AV.os 2 0 n], Row.arr 1 (List.map encI ab), Row.arr 1 (List.map encI dp)] =
 some
 (goB (U.thR (List.map encI dp) b),
 [Row.box [AV.os 1 0 n, AV.os 2 0 n], Row.arr 1 (List.map encI ab), Row.arr 1 (List.map encI dp)], []) ∧
 TB (!U.thR (List.map encI dp) b) ((goI (-1), [], []) = r)
 (Wf Tryd.prog H 41 [AV.pt 0 0 0, goI a]
 [Row.box [AV.os 1 0 n, AV.os 2 0 n], Row.arr 1 (List.map encI ab), Row.arr 1 (List.map encI dp)] =
 some
 (AV.sl (List.map encU s),
 [Row.box [AV.os 1 0 n, AV.os 2 0 n], Row.arr 1 (List.map encI ab), Row.arr 1 (List.map encI dp)],
 []) ∧
 LoopTo Tryd.prog H (H 16) 0 (loopOf Tryd.prog 16 5)
 (mkS 36 [(2, goI b), (7, AV.pt 1 0 0), (8, AV.sl (List.map encU s))]
 [Row.dead, Row.box [AV.os 2 0 n, AV.os 3 0 n], Row.arr 1 (List.map encI ab),
 Row.arr 1 (List.map encI dp)])
 (Ex.exit 0, mkS 36 [(2, goI c)] [Row.dead, Row.dead, Row.dead, Row.dead]) ∧
 (goI c, [], []) = r))) := by kernel_rfl
theorem td36_5 (b : Int) (n : Nat) (ab : List Int) (dp : List Int) (s : List Int) (rb : Bool) (r : Ex × St) : (turnT Tryd.prog H (Fd49 0 [] rb []) L0 false (H 16) 0 (loopOf Tryd.prog 16 5)
 (mkS 36 [(2, goI b), (7, AV.pt 1 0 0), (8, AV.sl (List.map encU s))]
 [Row.dead, Row.box [AV.os 2 0 n, AV.os 3 0 n], Row.arr 1 (List.map encI ab), Row.arr 1 (List.map encI dp)])
 r) = (Wf Tryd.prog H 43 [AV.sl (List.map encU s), goI b] [] = some (goB rb, [], []) ∧
 TB (!rb)
 ((0 ≤ b ∧ b < (↑n : Int) ∧ 0 + Int.toNat b < List.length (List.map encI ab)) ∧
 cutAt 1 0 (List.map encI ab)[0 + Int.toNat b]? = some [goI (rdI (rowAt (List.map encI ab) (0 + Int.toNat b)) 0)] ∧
 LoopTo Tryd.prog H (H 16) 0 (loopOf Tryd.prog 16 5)
 (mkS 36
 [(2, goI (rdI (rowAt (List.map encI ab) (0 + Int.toNat b)) 0)), (7, AV.pt 1 0 0),
 (8, AV.sl (List.map encU s))]
 [Row.dead, Row.box [AV.os 2 0 n, AV.os 3 0 n], Row.arr 1 (List.map encI ab), Row.arr 1 (List.map encI dp)])
 r)
 ((Ex.exit 0, mkS 36 [(2, goI b)] [Row.dead, Row.dead, Row.dead, Row.dead]) = r)) := by kernel_rfl
theorem td65 (l : List Int) (x : List Int) (k : Nat) (r : AV × List Row × List Nat) : (runT Tryd.prog H (Fd49 k x false []) L0 false 54 [AV.sl (List.map encI l)] [] fun q => q = r) = (Wf Tryd.prog H 56 [AV.sl [], AV.sl (List.map encI l)] [] = some (AV.os 0 0 k, [Row.arr 1 (List.map encU x)], []) ∧
 (AV.sl (List.take k (List.drop 0 (List.map encU x))), [], []) = r) := by kernel_rfl
end Go.Proofs.YtabdcfcnngnnoaaDoor.E
