/- Functions, by what the evaluator asks; the theorems t.. were printed by show.txt, a program of this session. -/
import Derived.Test.YtabdcfcnngnnoaaDoor05i
import Derived.Test.YtabdcfcnngnnoaaDoorD0x
set_option linter.unusedVariables false
set_option linter.unusedSectionVars false
set_option linter.unusedSimpArgs false
set_option maxRecDepth 100000
namespace Go.Proofs.YtabdcfcnngnnoaaDoor.E
open Go
def boxR (ks bs : List (List AV)) (p q : Int) (bl : List XB) (m l : Nat) : Row := .box [.sl ks, .sl bs, goI p, goI q, .sl (bl.map encB), .os 1 0 m, .os 2 0 l]
def encBo (b : Bool) : List AV := [goB b]
def F64 : CallT := fun f args sto => match f, args with
 | 76, [.agg [_, _, _, _, .sl b], .v (.int _ n)] => .is (.sl (U.nextR b n), [], [])
 | _, _ => .no
def L64 (two : Bool) (b : Int) (m : List Bool) (l : List Int) : Nat → St → LT := fun id st => match st.2 with
 | [.box [a1, a2, a3, a4, a5, _, _], _, _, _] => .is (.exit 0) (mkS 57 [(0, .pt 0 0 0), (1, goI b)] [.box [a1, a2, a3, a4, a5, .os 1 0 m.length, .os 2 0 l.length], .arr 1 (m.map encBo), .arr 1 (l.map encI), .dead] (if two then [2] else []))
 | _ => .no
def F643 (c : Bool) (m : List Bool) (l : List Int) : CallT := fun f args sto => match f, sto with
 | 83, [.box [a1, a2, a3, a4, a5, a6, a7], M, N] => .by c (.is (.tup [], [.box [a1, a2, a3, a4, a5, a6, a7], M, N], [])) (.is (.tup [], [.box [a1, a2, a3, a4, a5, .os 1 0 m.length, .os 2 0 l.length], .arr 1 (m.map encBo), .arr 1 (l.map encI)], [2]))
 | _, _ => .no
def F66 : CallT := fun f args sto => match f, args with
 | 58, [.agg [_, _, _, _, .sl b], .v (.int _ n)] => .is (.sl (U.nextR b n), [], [])
 | _, _ => .no
def L66 (two : Bool) (b : Int) (m : List Bool) (l : List Int) : Nat → St → LT := fun id st => .is (.exit 0) (mkS 50 [(1, goI b), (3, .os 1 0 l.length)] [.arr 1 (m.map encBo), .arr 1 (l.map encI), .dead, .dead] (if two then [1] else []))
def L66n (b : Int) (m : List Bool) (l : List Int) : Nat → St → LT := fun id st => .is (.exit 0) (mkS 50 [(1, goI b), (3, .os 2 0 l.length)] [.arr 1 (m.map encBo), .dead, .arr 1 (l.map encI)])
def F666 (c : Bool) (m : List Bool) (l : List Int) : CallT := fun f args sto => match f, args with
 | 68, [_, _, _, a] => .by c (.is (a, sto, [])) (.is (.os 1 0 l.length, [.arr 1 (m.map encBo), .arr 1 (l.map encI)], [1]))
 | _, _ => .no

theorem t64a (ks : List (List AV)) (bs : List (List AV)) (p : Int) (q : Int) (bl : List XB) (b : Int) (met : List Bool) (m : List Bool) (left : List Int) (l : List Int) (r : AV × List Row × List Nat) : (runT Tryd.prog H F64 (L64 false b m l) false 83 [AV.pt 0 0 0, goI b]
 [Row.box
 [AV.sl ks, AV.sl bs, goI p, goI q, AV.sl (List.map encB bl), AV.os 1 0 (List.length met),
 AV.os 2 0 (List.length left)],
 Row.arr 1 (List.map encBo met), Row.arr 1 (List.map encI left)]
 fun q => q = r) = (TB (decide (b < 0))
 ((AV.tup [],
 [Row.box
 [AV.sl ks, AV.sl bs, goI p, goI q, AV.sl (List.map encB bl), AV.os 1 0 (List.length met),
 AV.os 2 0 (List.length left)],
 Row.arr 1 (List.map encBo met), Row.arr 1 (List.map encI left)],
 []) =
 r)
 (TB (decide (b ≥ (↑(List.length met) : Int)))
 ((AV.tup [],
 [Row.box
 [AV.sl ks, AV.sl bs, goI p, goI q, AV.sl (List.map encB bl), AV.os 1 0 (List.length met),
 AV.os 2 0 (List.length left)],
 Row.arr 1 (List.map encBo met), Row.arr 1 (List.map encI left)],
 []) =
 r)
 ((0 ≤ b ∧ b < (↑(List.length met) : Int) ∧ 0 + Int.toNat b < List.length (List.map encBo met)) ∧
 cutAt 1 0 (List.map encBo met)[0 + Int.toNat b]? =
 some [goB (rdB (rowAt (List.map encBo met) (0 + Int.toNat b)) 0)] ∧
 TB (rdB (rowAt (List.map encBo met) (0 + Int.toNat b)) 0)
 ((AV.tup [],
 [Row.box
 [AV.sl ks, AV.sl bs, goI p, goI q, AV.sl (List.map encB bl), AV.os 1 0 (List.length met),
 AV.os 2 0 (List.length left)],
 Row.arr 1 (List.map encBo met), Row.arr 1 (List.map encI left)],
 []) =
 r)
 ((0 ≤ b ∧ b < (↑(List.length met) : Int) ∧ 0 + Int.toNat b < List.length (List.map encBo met)) ∧
 Option.map List.length (List.map encBo met)[0 + Int.toNat b]? = some 1 ∧
 Wf Tryd.prog H 76 [AV.agg [AV.sl ks, AV.sl bs, goI p, goI q, AV.sl (List.map encB bl)], goI b] [] =
 some (AV.sl (U.nextR (List.map encB bl) b), [], []) ∧
 LoopTo Tryd.prog H (H 83) 3 (loopOf Tryd.prog 83 3)
 (mkS 57
 [(0, AV.pt 0 0 0), (1, goI b), (37, AV.sl (U.nextR (List.map encB bl) b)),
 (38, goI (↑(List.length (U.nextR (List.map encB bl) b)) : Int)), (39, goI 0)]
 [Row.box
 [AV.sl ks, AV.sl bs, goI p, goI q, AV.sl (List.map encB bl), AV.os 1 0 (List.length met),
 AV.os 2 0 (List.length left)],
 Row.arr 1 (List.set (List.map encBo met) (0 + Int.toNat b) [goB true]),
 Row.arr 1 (List.map encI left), Row.dead])
 (Ex.exit 0,
 mkS 57 [(0, AV.pt 0 0 0), (1, goI b)]
 [Row.box
 [AV.sl ks, AV.sl bs, goI p, goI q, AV.sl (List.map encB bl), AV.os 1 0 (List.length m),
 AV.os 2 0 (List.length l)],
 Row.arr 1 (List.map encBo m), Row.arr 1 (List.map encI l), Row.dead]) ∧
 true = true ∧
 (List.length l = List.length (List.map encI l) ∧ List.length l + 1 ≤ 1000000) ∧
 (AV.tup [],
 [Row.box
 [AV.sl ks, AV.sl bs, goI p, goI q, AV.sl (List.map encB bl), AV.os 1 0 (List.length m),
 AV.os 2 0 (List.length l + 1)],
 Row.arr 1 (List.map encBo m), Row.arr 1 (List.map encI l ++ [[goI b]])],
 [2]) =
 r)))) := by kernel_rfl
theorem t64b (ks : List (List AV)) (bs : List (List AV)) (p : Int) (q : Int) (bl : List XB) (b : Int) (met : List Bool) (m : List Bool) (left : List Int) (l : List Int) (r : AV × List Row × List Nat) : (runT Tryd.prog H F64 (L64 true b m l) false 83 [AV.pt 0 0 0, goI b]
 [Row.box
 [AV.sl ks, AV.sl bs, goI p, goI q, AV.sl (List.map encB bl), AV.os 1 0 (List.length met),
 AV.os 2 0 (List.length left)],
 Row.arr 1 (List.map encBo met), Row.arr 1 (List.map encI left)]
 fun q => q = r) = (TB (decide (b < 0))
 ((AV.tup [],
 [Row.box
 [AV.sl ks, AV.sl bs, goI p, goI q, AV.sl (List.map encB bl), AV.os 1 0 (List.length met),
 AV.os 2 0 (List.length left)],
 Row.arr 1 (List.map encBo met), Row.arr 1 (List.map encI left)],
 []) =
 r)
 (TB (decide (b ≥ (↑(List.length met) : Int)))
 ((AV.tup [],
 [Row.box
 [AV.sl ks, AV.sl bs, goI p, goI q, AV.sl (List.map encB bl), AV.os 1 0 (List.length met),
 AV.os 2 0 (List.length left)],
 Row.arr 1 (List.map encBo met), Row.arr 1 (List.map encI left)],
 []) =
 r)
 ((0 ≤ b ∧ b < (↑(List.length met) : Int) ∧ 0 + Int.toNat b < List.length (List.map encBo met)) ∧
 cutAt 1 0 (List.map encBo met)[0 + Int.toNat b]? =
 some [goB (rdB (rowAt (List.map encBo met) (0 + Int.toNat b)) 0)] ∧
 TB (rdB (rowAt (List.map encBo met) (0 + Int.toNat b)) 0)
 ((AV.tup [],
 [Row.box
 [AV.sl ks, AV.sl bs, goI p, goI q, AV.sl (List.map encB bl), AV.os 1 0 (List.length met),
 AV.os 2 0 (List.length left)],
 Row.arr 1 (List.map encBo met), Row.arr 1 (List.map encI left)],
 []) =
 r)
 ((0 ≤ b ∧ b < (↑(List.length met) : Int) ∧ 0 + Int.toNat b < List.length (List.map encBo met)) ∧
 Option.map List.length (List.map encBo met)[0 + Int.toNat b]? = some 1 ∧
 Wf Tryd.prog H 76 [AV.agg [AV.sl ks, AV.sl bs, goI p, goI q, AV.sl (List.map encB bl)], goI b] [] =
 some (AV.sl (U.nextR (List.map encB bl) b), [], []) ∧
 LoopTo Tryd.prog H (H 83) 3 (loopOf Tryd.prog 83 3)
 (mkS 57
 [(0, AV.pt 0 0 0), (1, goI b), (37, AV.sl (U.nextR (List.map encB bl) b)),
 (38, goI (↑(List.length (U.nextR (List.map encB bl) b)) : Int)), (39, goI 0)]
 [Row.box
 [AV.sl ks, AV.sl bs, goI p, goI q, AV.sl (List.map encB bl), AV.os 1 0 (List.length met),
 AV.os 2 0 (List.length left)],
 Row.arr 1 (List.set (List.map encBo met) (0 + Int.toNat b) [goB true]),
 Row.arr 1 (List.map encI left), Row.dead])
 (Ex.exit 0,
 mkS 57 [(0, AV.pt 0 0 0), (1, goI b)]
 [Row.box
 [AV.sl ks, AV.sl bs, goI p, goI q, AV.sl (List.map encB bl), AV.os 1 0 (List.length m),
 AV.os 2 0 (List.length l)],
 Row.arr 1 (List.map encBo m), Row.arr 1 (List.map encI l), Row.dead]
 [2]) ∧
 true = true ∧
 (List.length l = List.length (List.map encI l) ∧ List.length l + 1 ≤ 1000000) ∧
 (AV.tup [],
 [Row.box
 [AV.sl ks, AV.sl bs, goI p, goI q, AV.sl (List.map encB bl), AV.os 1 0 (List.length m),
 AV.os 2 0 (List.length l + 1)],
 Row.arr 1 (List.map encBo m), Row.arr 1 (List.map encI l ++ [[goI b]])],
 [2]) =
 r)))) := by kernel_rfl
theorem t64_3 (ks : List (List AV)) (bs : List (List AV)) (p : Int) (q : Int) (bl : List XB) (b : Int) (t : List Int) (n : Int) (i : Nat) (met : List Bool) (m : List Bool) (left : List Int) (l : List Int) (c : Bool) (r : Ex × St) : (turnT Tryd.prog H (F643 c m l) L0 false (H 83) 3 (loopOf Tryd.prog 83 3)
 (mkS 57 [(0, AV.pt 0 0 0), (1, goI b), (37, AV.sl (List.map encI t)), (38, goI n), (39, goI (↑i : Int))]
 [Row.box
 [AV.sl ks, AV.sl bs, goI p, goI q, AV.sl (List.map encB bl), AV.os 1 0 (List.length met),
 AV.os 2 0 (List.length left)],
 Row.arr 1 (List.map encBo met), Row.arr 1 (List.map encI left), Row.dead])
 r) = (TB (decide ((↑i : Int) < n))
 ((0 ≤ (↑i : Int) ∧ (List.map encI t)[i]? = some [goI (rdI (rowAt (List.map encI t) i) 0)]) ∧
 TB c
 (Wf Tryd.prog H 83 [AV.pt 0 0 0, goI (rdI (rowAt (List.map encI t) i) 0)]
 [Row.box
 [AV.sl ks, AV.sl bs, goI p, goI q, AV.sl (List.map encB bl), AV.os 1 0 (List.length met),
 AV.os 2 0 (List.length left)],
 Row.arr 1 (List.map encBo met), Row.arr 1 (List.map encI left)] =
 some
 (AV.tup [],
 [Row.box
 [AV.sl ks, AV.sl bs, goI p, goI q, AV.sl (List.map encB bl), AV.os 1 0 (List.length met),
 AV.os 2 0 (List.length left)],
 Row.arr 1 (List.map encBo met), Row.arr 1 (List.map encI left)],
 []) ∧
 LoopTo Tryd.prog H (H 83) 3 (loopOf Tryd.prog 83 3)
 (mkS 57
 [(0, AV.pt 0 0 0), (1, goI b), (37, AV.sl (List.map encI t)), (38, goI n),
 (39, goI (IntKind.wrap IntKind.i64 ((↑i : Int) + 1)))]
 [Row.box
 [AV.sl ks, AV.sl bs, goI p, goI q, AV.sl (List.map encB bl), AV.os 1 0 (List.length met),
 AV.os 2 0 (List.length left)],
 Row.arr 1 (List.map encBo met), Row.arr 1 (List.map encI left), Row.dead])
 r)
 (Wf Tryd.prog H 83 [AV.pt 0 0 0, goI (rdI (rowAt (List.map encI t) i) 0)]
 [Row.box
 [AV.sl ks, AV.sl bs, goI p, goI q, AV.sl (List.map encB bl), AV.os 1 0 (List.length met),
 AV.os 2 0 (List.length left)],
 Row.arr 1 (List.map encBo met), Row.arr 1 (List.map encI left)] =
 some
 (AV.tup [],
 [Row.box
 [AV.sl ks, AV.sl bs, goI p, goI q, AV.sl (List.map encB bl), AV.os 1 0 (List.length m),
 AV.os 2 0 (List.length l)],
 Row.arr 1 (List.map encBo m), Row.arr 1 (List.map encI l)],
 [2]) ∧
 LoopTo Tryd.prog H (H 83) 3 (loopOf Tryd.prog 83 3)
 (mkS 57
 [(0, AV.pt 0 0 0), (1, goI b), (37, AV.sl (List.map encI t)), (38, goI n),
 (39, goI (IntKind.wrap IntKind.i64 ((↑i : Int) + 1)))]
 [Row.box
 [AV.sl ks, AV.sl bs, goI p, goI q, AV.sl (List.map encB bl), AV.os 1 0 (List.length m),
 AV.os 2 0 (List.length l)],
 Row.arr 1 (List.map encBo m), Row.arr 1 (List.map encI l), Row.dead]
 [2])
 r))
 ((Ex.exit 0,
 mkS 57 [(0, AV.pt 0 0 0), (1, goI b)]
 [Row.box
 [AV.sl ks, AV.sl bs, goI p, goI q, AV.sl (List.map encB bl), AV.os 1 0 (List.length met),
 AV.os 2 0 (List.length left)],
 Row.arr 1 (List.map encBo met), Row.arr 1 (List.map encI left), Row.dead]) =
 r)) := by kernel_rfl
theorem t64_3m (ks : List (List AV)) (bs : List (List AV)) (p : Int) (q : Int) (bl : List XB) (b : Int) (t : List Int) (n : Int) (i : Nat) (met : List Bool) (m : List Bool) (left : List Int) (l : List Int) (c : Bool) (r : Ex × St) : (turnT Tryd.prog H (F643 c m l) L0 false (H 83) 3 (loopOf Tryd.prog 83 3)
 (mkS 57 [(0, AV.pt 0 0 0), (1, goI b), (37, AV.sl (List.map encI t)), (38, goI n), (39, goI (↑i : Int))]
 [Row.box
 [AV.sl ks, AV.sl bs, goI p, goI q, AV.sl (List.map encB bl), AV.os 1 0 (List.length met),
 AV.os 2 0 (List.length left)],
 Row.arr 1 (List.map encBo met), Row.arr 1 (List.map encI left), Row.dead]
 [2])
 r) = (TB (decide ((↑i : Int) < n))
 ((0 ≤ (↑i : Int) ∧ (List.map encI t)[i]? = some [goI (rdI (rowAt (List.map encI t) i) 0)]) ∧
 TB c
 (Wf Tryd.prog H 83 [AV.pt 0 0 0, goI (rdI (rowAt (List.map encI t) i) 0)]
 [Row.box
 [AV.sl ks, AV.sl bs, goI p, goI q, AV.sl (List.map encB bl), AV.os 1 0 (List.length met),
 AV.os 2 0 (List.length left)],
 Row.arr 1 (List.map encBo met), Row.arr 1 (List.map encI left)] =
 some
 (AV.tup [],
 [Row.box
 [AV.sl ks, AV.sl bs, goI p, goI q, AV.sl (List.map encB bl), AV.os 1 0 (List.length met),
 AV.os 2 0 (List.length left)],
 Row.arr 1 (List.map encBo met), Row.arr 1 (List.map encI left)],
 []) ∧
 LoopTo Tryd.prog H (H 83) 3 (loopOf Tryd.prog 83 3)
 (mkS 57
 [(0, AV.pt 0 0 0), (1, goI b), (37, AV.sl (List.map encI t)), (38, goI n),
 (39, goI (IntKind.wrap IntKind.i64 ((↑i : Int) + 1)))]
 [Row.box
 [AV.sl ks, AV.sl bs, goI p, goI q, AV.sl (List.map encB bl), AV.os 1 0 (List.length met),
 AV.os 2 0 (List.length left)],
 Row.arr 1 (List.map encBo met), Row.arr 1 (List.map encI left), Row.dead]
 [2])
 r)
 (Wf Tryd.prog H 83 [AV.pt 0 0 0, goI (rdI (rowAt (List.map encI t) i) 0)]
 [Row.box
 [AV.sl ks, AV.sl bs, goI p, goI q, AV.sl (List.map encB bl), AV.os 1 0 (List.length met),
 AV.os 2 0 (List.length left)],
 Row.arr 1 (List.map encBo met), Row.arr 1 (List.map encI left)] =
 some
 (AV.tup [],
 [Row.box
 [AV.sl ks, AV.sl bs, goI p, goI q, AV.sl (List.map encB bl), AV.os 1 0 (List.length m),
 AV.os 2 0 (List.length l)],
 Row.arr 1 (List.map encBo m), Row.arr 1 (List.map encI l)],
 [2]) ∧
 LoopTo Tryd.prog H (H 83) 3 (loopOf Tryd.prog 83 3)
 (mkS 57
 [(0, AV.pt 0 0 0), (1, goI b), (37, AV.sl (List.map encI t)), (38, goI n),
 (39, goI (IntKind.wrap IntKind.i64 ((↑i : Int) + 1)))]
 [Row.box
 [AV.sl ks, AV.sl bs, goI p, goI q, AV.sl (List.map encB bl), AV.os 1 0 (List.length m),
 AV.os 2 0 (List.length l)],
 Row.arr 1 (List.map encBo m), Row.arr 1 (List.map encI l), Row.dead]
 [2])
 r))
 ((Ex.exit 0,
 mkS 57 [(0, AV.pt 0 0 0), (1, goI b)]
 [Row.box
 [AV.sl ks, AV.sl bs, goI p, goI q, AV.sl (List.map encB bl), AV.os 1 0 (List.length met),
 AV.os 2 0 (List.length left)],
 Row.arr 1 (List.map encBo met), Row.arr 1 (List.map encI left), Row.dead]
 [2]) =
 r)) := by kernel_rfl
theorem t66a (ks : List (List AV)) (bs : List (List AV)) (p : Int) (q : Int) (bl : List XB) (b : Int) (met : List Bool) (m : List Bool) (left : List Int) (l : List Int) (r : AV × List Row × List Nat) : (runT Tryd.prog H F66 (L66 false b m l) false 68
 [AV.agg [AV.sl ks, AV.sl bs, goI p, goI q, AV.sl (List.map encB bl)], goI b, AV.os 0 0 (List.length met),
 AV.os 1 0 (List.length left)]
 [Row.arr 1 (List.map encBo met), Row.arr 1 (List.map encI left)] fun q => q = r) = (TB (decide (b < 0))
 ((AV.os 1 0 (List.length left), [Row.arr 1 (List.map encBo met), Row.arr 1 (List.map encI left)], []) = r)
 (TB (decide (b ≥ (↑(List.length met) : Int)))
 ((AV.os 1 0 (List.length left), [Row.arr 1 (List.map encBo met), Row.arr 1 (List.map encI left)], []) = r)
 ((0 ≤ b ∧ b < (↑(List.length met) : Int) ∧ 0 + Int.toNat b < List.length (List.map encBo met)) ∧
 cutAt 1 0 (List.map encBo met)[0 + Int.toNat b]? =
 some [goB (rdB (rowAt (List.map encBo met) (0 + Int.toNat b)) 0)] ∧
 TB (rdB (rowAt (List.map encBo met) (0 + Int.toNat b)) 0)
 ((AV.os 1 0 (List.length left), [Row.arr 1 (List.map encBo met), Row.arr 1 (List.map encI left)], []) = r)
 ((0 ≤ b ∧ b < (↑(List.length met) : Int) ∧ 0 + Int.toNat b < List.length (List.map encBo met)) ∧
 Option.map List.length (List.map encBo met)[0 + Int.toNat b]? = some 1 ∧
 Wf Tryd.prog H 58 [AV.agg [AV.sl ks, AV.sl bs, goI p, goI q, AV.sl (List.map encB bl)], goI b] [] =
 some (AV.sl (U.nextR (List.map encB bl) b), [], []) ∧
 LoopTo Tryd.prog H (H 68) 2 (loopOf Tryd.prog 68 6)
 (mkS 50
 [(1, goI b), (2, AV.os 0 0 (List.length met)), (3, AV.os 1 0 (List.length left)),
 (4, AV.pt 2 0 0), (9, AV.sl (U.nextR (List.map encB bl) b)), (10, goI 0)]
 [Row.arr 1 (List.set (List.map encBo met) (0 + Int.toNat b) [goB true]),
 Row.arr 1 (List.map encI left),
 Row.box [AV.sl ks, AV.sl bs, goI p, goI q, AV.sl (List.map encB bl)], Row.dead])
 (Ex.exit 0,
 mkS 50 [(1, goI b), (3, AV.os 1 0 (List.length l))]
 [Row.arr 1 (List.map encBo m), Row.arr 1 (List.map encI l), Row.dead, Row.dead]) ∧
 true = true ∧
 (List.length l = List.length (List.map encI l) ∧ List.length l + 1 ≤ 1000000) ∧
 (AV.os 1 0 (List.length l + 1),
 [Row.arr 1 (List.map encBo m), Row.arr 1 (List.map encI l ++ [[goI b]])], [1]) =
 r)))) := by kernel_rfl
theorem t66b (ks : List (List AV)) (bs : List (List AV)) (p : Int) (q : Int) (bl : List XB) (b : Int) (met : List Bool) (m : List Bool) (left : List Int) (l : List Int) (r : AV × List Row × List Nat) : (runT Tryd.prog H F66 (L66 true b m l) false 68
 [AV.agg [AV.sl ks, AV.sl bs, goI p, goI q, AV.sl (List.map encB bl)], goI b, AV.os 0 0 (List.length met),
 AV.os 1 0 (List.length left)]
 [Row.arr 1 (List.map encBo met), Row.arr 1 (List.map encI left)] fun q => q = r) = (TB (decide (b < 0))
 ((AV.os 1 0 (List.length left), [Row.arr 1 (List.map encBo met), Row.arr 1 (List.map encI left)], []) = r)
 (TB (decide (b ≥ (↑(List.length met) : Int)))
 ((AV.os 1 0 (List.length left), [Row.arr 1 (List.map encBo met), Row.arr 1 (List.map encI left)], []) = r)
 ((0 ≤ b ∧ b < (↑(List.length met) : Int) ∧ 0 + Int.toNat b < List.length (List.map encBo met)) ∧
 cutAt 1 0 (List.map encBo met)[0 + Int.toNat b]? =
 some [goB (rdB (rowAt (List.map encBo met) (0 + Int.toNat b)) 0)] ∧
 TB (rdB (rowAt (List.map encBo met) (0 + Int.toNat b)) 0)
 ((AV.os 1 0 (List.length left), [Row.arr 1 (List.map encBo met), Row.arr 1 (List.map encI left)], []) = r)
 ((0 ≤ b ∧ b < (↑(List.length met) : Int) ∧ 0 + Int.toNat b < List.length (List.map encBo met)) ∧
 Option.map List.length (List.map encBo met)[0 + Int.toNat b]? = some 1 ∧
 Wf Tryd.prog H 58 [AV.agg [AV.sl ks, AV.sl bs, goI p, goI q, AV.sl (List.map encB bl)], goI b] [] =
 some (AV.sl (U.nextR (List.map encB bl) b), [], []) ∧
 LoopTo Tryd.prog H (H 68) 2 (loopOf Tryd.prog 68 6)
 (mkS 50
 [(1, goI b), (2, AV.os 0 0 (List.length met)), (3, AV.os 1 0 (List.length left)),
 (4, AV.pt 2 0 0), (9, AV.sl (U.nextR (List.map encB bl) b)), (10, goI 0)]
 [Row.arr 1 (List.set (List.map encBo met) (0 + Int.toNat b) [goB true]),
 Row.arr 1 (List.map encI left),
 Row.box [AV.sl ks, AV.sl bs, goI p, goI q, AV.sl (List.map encB bl)], Row.dead])
 (Ex.exit 0,
 mkS 50 [(1, goI b), (3, AV.os 1 0 (List.length l))]
 [Row.arr 1 (List.map encBo m), Row.arr 1 (List.map encI l), Row.dead, Row.dead] [1]) ∧
 true = true ∧
 (List.length l = List.length (List.map encI l) ∧ List.length l + 1 ≤ 1000000) ∧
 (AV.os 1 0 (List.length l + 1),
 [Row.arr 1 (List.map encBo m), Row.arr 1 (List.map encI l ++ [[goI b]])], [1]) =
 r)))) := by kernel_rfl
theorem t66n (ks : List (List AV)) (bs : List (List AV)) (p : Int) (q : Int) (bl : List XB) (b : Int) (met : List Bool) (m : List Bool) (l : List Int) (r : AV × List Row × List Nat) : (runT Tryd.prog H F66 (L66n b m l) false 68
 [AV.agg [AV.sl ks, AV.sl bs, goI p, goI q, AV.sl (List.map encB bl)], goI b, AV.os 0 0 (List.length met), AV.nil]
 [Row.arr 1 (List.map encBo met)] fun q => q = r) = (TB (decide (b < 0)) ((AV.sl [], [Row.arr 1 (List.map encBo met)], []) = r)
 (TB (decide (b ≥ (↑(List.length met) : Int))) ((AV.sl [], [Row.arr 1 (List.map encBo met)], []) = r)
 ((0 ≤ b ∧ b < (↑(List.length met) : Int) ∧ 0 + Int.toNat b < List.length (List.map encBo met)) ∧
 cutAt 1 0 (List.map encBo met)[0 + Int.toNat b]? =
 some [goB (rdB (rowAt (List.map encBo met) (0 + Int.toNat b)) 0)] ∧
 TB (rdB (rowAt (List.map encBo met) (0 + Int.toNat b)) 0) ((AV.sl [], [Row.arr 1 (List.map encBo met)], []) = r)
 ((0 ≤ b ∧ b < (↑(List.length met) : Int) ∧ 0 + Int.toNat b < List.length (List.map encBo met)) ∧
 Option.map List.length (List.map encBo met)[0 + Int.toNat b]? = some 1 ∧
 Wf Tryd.prog H 58 [AV.agg [AV.sl ks, AV.sl bs, goI p, goI q, AV.sl (List.map encB bl)], goI b] [] =
 some (AV.sl (U.nextR (List.map encB bl) b), [], []) ∧
 LoopTo Tryd.prog H (H 68) 1 (loopOf Tryd.prog 68 6)
 (mkS 50
 [(1, goI b), (2, AV.os 0 0 (List.length met)), (3, AV.os 2 0 0), (4, AV.pt 1 0 0),
 (9, AV.sl (U.nextR (List.map encB bl) b)), (10, goI 0)]
 [Row.arr 1 (List.set (List.map encBo met) (0 + Int.toNat b) [goB true]),
 Row.box [AV.sl ks, AV.sl bs, goI p, goI q, AV.sl (List.map encB bl)], Row.arr 1 []])
 (Ex.exit 0,
 mkS 50 [(1, goI b), (3, AV.os 2 0 (List.length l))]
 [Row.arr 1 (List.map encBo m), Row.dead, Row.arr 1 (List.map encI l)]) ∧
 true = true ∧
 (List.length l = List.length (List.map encI l) ∧ List.length l + 1 ≤ 1000000) ∧
 (AV.os 1 0 (List.length l + 1),
 [Row.arr 1 (List.map encBo m), Row.arr 1 (List.map encI l ++ [[goI b]])], []) =
 r)))) := by kernel_rfl
theorem t66_6 (ks : List (List AV)) (bs : List (List AV)) (p : Int) (q : Int) (bl : List XB) (b : Int) (t : List Int) (i : Nat) (met : List Bool) (m : List Bool) (left : List Int) (l : List Int) (c : Bool) (r : Ex × St) : (turnT Tryd.prog H (F666 c m l) L0 false (H 68) 2 (loopOf Tryd.prog 68 6)
 (mkS 50
 [(1, goI b), (2, AV.os 0 0 (List.length met)), (3, AV.os 1 0 (List.length left)), (4, AV.pt 2 0 0),
 (9, AV.sl (List.map encI t)), (10, goI (↑i : Int))]
 [Row.arr 1 (List.map encBo met), Row.arr 1 (List.map encI left),
 Row.box [AV.sl ks, AV.sl bs, goI p, goI q, AV.sl (List.map encB bl)], Row.dead])
 r) = (TB (decide ((↑i : Int) < (↑(List.length (List.map encI t)) : Int)))
 ((0 ≤ (↑i : Int) ∧ (List.map encI t)[i]? = some [goI (rdI (rowAt (List.map encI t) i) 0)]) ∧
 TB c
 (Wf Tryd.prog H 68
 [AV.agg [AV.sl ks, AV.sl bs, goI p, goI q, AV.sl (List.map encB bl)],
 goI (rdI (rowAt (List.map encI t) i) 0), AV.os 0 0 (List.length met), AV.os 1 0 (List.length left)]
 [Row.arr 1 (List.map encBo met), Row.arr 1 (List.map encI left)] =
 some (AV.os 1 0 (List.length left), [Row.arr 1 (List.map encBo met), Row.arr 1 (List.map encI left)], []) ∧
 LoopTo Tryd.prog H (H 68) 2 (loopOf Tryd.prog 68 6)
 (mkS 50
 [(1, goI b), (2, AV.os 0 0 (List.length met)), (3, AV.os 1 0 (List.length left)), (4, AV.pt 2 0 0),
 (9, AV.sl (List.map encI t)), (10, goI (IntKind.wrap IntKind.i64 ((↑i : Int) + 1)))]
 [Row.arr 1 (List.map encBo met), Row.arr 1 (List.map encI left),
 Row.box [AV.sl ks, AV.sl bs, goI p, goI q, AV.sl (List.map encB bl)], Row.dead])
 r)
 (Wf Tryd.prog H 68
 [AV.agg [AV.sl ks, AV.sl bs, goI p, goI q, AV.sl (List.map encB bl)],
 goI (rdI (rowAt (List.map encI t) i) 0), AV.os 0 0 (List.length met), AV.os 1 0 (List.length left)]
 [Row.arr 1 (List.map encBo met), Row.arr 1 (List.map encI left)] =
 some (AV.os 1 0 (List.length l), [Row.arr 1 (List.map encBo m), Row.arr 1 (List.map encI l)], [1]) ∧
 LoopTo Tryd.prog H (H 68) 2 (loopOf Tryd.prog 68 6)
 (mkS 50
 [(1, goI b), (2, AV.os 0 0 (List.length met)), (3, AV.os 1 0 (List.length l)), (4, AV.pt 2 0 0),
 (9, AV.sl (List.map encI t)), (10, goI (IntKind.wrap IntKind.i64 ((↑i : Int) + 1)))]
 [Row.arr 1 (List.map encBo m), Row.arr 1 (List.map encI l),
 Row.box [AV.sl ks, AV.sl bs, goI p, goI q, AV.sl (List.map encB bl)], Row.dead]
 [1])
 r))
 ((Ex.exit 0,
 mkS 50 [(1, goI b), (3, AV.os 1 0 (List.length left))]
 [Row.arr 1 (List.map encBo met), Row.arr 1 (List.map encI left), Row.dead, Row.dead]) =
 r)) := by kernel_rfl
theorem t66_6m (ks : List (List AV)) (bs : List (List AV)) (p : Int) (q : Int) (bl : List XB) (b : Int) (t : List Int) (i : Nat) (met : List Bool) (m : List Bool) (left : List Int) (l : List Int) (c : Bool) (r : Ex × St) : (turnT Tryd.prog H (F666 c m l) L0 false (H 68) 2 (loopOf Tryd.prog 68 6)
 (mkS 50
 [(1, goI b), (2, AV.os 0 0 (List.length met)), (3, AV.os 1 0 (List.length left)), (4, AV.pt 2 0 0),
 (9, AV.sl (List.map encI t)), (10, goI (↑i : Int))]
 [Row.arr 1 (List.map encBo met), Row.arr 1 (List.map encI left),
 Row.box [AV.sl ks, AV.sl bs, goI p, goI q, AV.sl (List.map encB bl)], Row.dead]
 [1])
 r) = (TB (decide ((↑i : Int) < (↑(List.length (List.map encI t)) : Int)))
 ((0 ≤ (↑i : Int) ∧ (List.map encI t)[i]? = some [goI (rdI (rowAt (List.map encI t) i) 0)]) ∧
 TB c
 (Wf Tryd.prog H 68
 [AV.agg [AV.sl ks, AV.sl bs, goI p, goI q, AV.sl (List.map encB bl)],
 goI (rdI (rowAt (List.map encI t) i) 0), AV.os 0 0 (List.length met), AV.os 1 0 (List.length left)]
 [Row.arr 1 (List.map encBo met), Row.arr 1 (List.map encI left)] =
 some (AV.os 1 0 (List.length left), [Row.arr 1 (List.map encBo met), Row.arr 1 (List.map encI left)], []) ∧
 LoopTo Tryd.prog H (H 68) 2 (loopOf Tryd.prog 68 6)
 (mkS 50
 [(1, goI b), (2, AV.os 0 0 (List.length met)), (3, AV.os 1 0 (List.length left)), (4, AV.pt 2 0 0),
 (9, AV.sl (List.map encI t)), (10, goI (IntKind.wrap IntKind.i64 ((↑i : Int) + 1)))]
 [Row.arr 1 (List.map encBo met), Row.arr 1 (List.map encI left),
 Row.box [AV.sl ks, AV.sl bs, goI p, goI q, AV.sl (List.map encB bl)], Row.dead]
 [1])
 r)
 (Wf Tryd.prog H 68
 [AV.agg [AV.sl ks, AV.sl bs, goI p, goI q, AV.sl (List.map encB bl)],
 goI (rdI (rowAt (List.map encI t) i) 0), AV.os 0 0 (List.length met), AV.os 1 0 (List.length left)]
 [Row.arr 1 (List.map encBo met), Row.arr 1 (List.map encI left)] =
 some (AV.os 1 0 (List.length l), [Row.arr 1 (List.map encBo m), Row.arr 1 (List.map encI l)], [1]) ∧
 LoopTo Tryd.prog H (H 68) 2 (loopOf Tryd.prog 68 6)
 (mkS 50
 [(1, goI b), (2, AV.os 0 0 (List.length met)), (3, AV.os 1 0 (List.length l)), (4, AV.pt 2 0 0),
 (9, AV.sl (List.map encI t)), (10, goI (IntKind.wrap IntKind.i64 ((↑i : Int) + 1)))]
 [Row.arr 1 (List.map encBo m), Row.arr 1 (List.map encI l),
 Row.box [AV.sl ks, AV.sl bs, goI p, goI q, AV.sl (List.map encB bl)], Row.dead]
 [1])
 r))
 ((Ex.exit 0,
 mkS 50 [(1, goI b), (3, AV.os 1 0 (List.length left))]
 [Row.arr 1 (List.map encBo met), Row.arr 1 (List.map encI left), Row.dead, Row.dead] [1]) =
 r)) := by kernel_rfl
theorem t66n_6 (ks : List (List AV)) (bs : List (List AV)) (p : Int) (q : Int) (bl : List XB) (b : Int) (t : List Int) (i : Nat) (met : List Bool) (m : List Bool) (left : List Int) (l : List Int) (c : Bool) (r : Ex × St) : (turnT Tryd.prog H (F666 c m l) L0 false (H 68) 1 (loopOf Tryd.prog 68 6)
 (mkS 50
 [(1, goI b), (2, AV.os 0 0 (List.length met)), (3, AV.os 2 0 (List.length left)), (4, AV.pt 1 0 0),
 (9, AV.sl (List.map encI t)), (10, goI (↑i : Int))]
 [Row.arr 1 (List.map encBo met), Row.box [AV.sl ks, AV.sl bs, goI p, goI q, AV.sl (List.map encB bl)],
 Row.arr 1 (List.map encI left)])
 r) = (TB (decide ((↑i : Int) < (↑(List.length (List.map encI t)) : Int)))
 ((0 ≤ (↑i : Int) ∧ (List.map encI t)[i]? = some [goI (rdI (rowAt (List.map encI t) i) 0)]) ∧
 TB c
 (Wf Tryd.prog H 68
 [AV.agg [AV.sl ks, AV.sl bs, goI p, goI q, AV.sl (List.map encB bl)],
 goI (rdI (rowAt (List.map encI t) i) 0), AV.os 0 0 (List.length met), AV.os 1 0 (List.length left)]
 [Row.arr 1 (List.map encBo met), Row.arr 1 (List.map encI left)] =
 some (AV.os 1 0 (List.length left), [Row.arr 1 (List.map encBo met), Row.arr 1 (List.map encI left)], []) ∧
 LoopTo Tryd.prog H (H 68) 1 (loopOf Tryd.prog 68 6)
 (mkS 50
 [(1, goI b), (2, AV.os 0 0 (List.length met)), (3, AV.os 2 0 (List.length left)), (4, AV.pt 1 0 0),
 (9, AV.sl (List.map encI t)), (10, goI (IntKind.wrap IntKind.i64 ((↑i : Int) + 1)))]
 [Row.arr 1 (List.map encBo met), Row.box [AV.sl ks, AV.sl bs, goI p, goI q, AV.sl (List.map encB bl)],
 Row.arr 1 (List.map encI left)])
 r)
 (Wf Tryd.prog H 68
 [AV.agg [AV.sl ks, AV.sl bs, goI p, goI q, AV.sl (List.map encB bl)],
 goI (rdI (rowAt (List.map encI t) i) 0), AV.os 0 0 (List.length met), AV.os 1 0 (List.length left)]
 [Row.arr 1 (List.map encBo met), Row.arr 1 (List.map encI left)] =
 some (AV.os 1 0 (List.length l), [Row.arr 1 (List.map encBo m), Row.arr 1 (List.map encI l)], [1]) ∧
 LoopTo Tryd.prog H (H 68) 1 (loopOf Tryd.prog 68 6)
 (mkS 50
 [(1, goI b), (2, AV.os 0 0 (List.length met)), (3, AV.os 2 0 (List.length l)), (4, AV.pt 1 0 0),
 (9, AV.sl (List.map encI t)), (10, goI (IntKind.wrap IntKind.i64 ((↑i : Int) + 1)))]
 [Row.arr 1 (List.map encBo m), Row.box [AV.sl ks, AV.sl bs, goI p, goI q, AV.sl (List.map encB bl)],
 Row.arr 1 (List.map encI l)])
 r))
 ((Ex.exit 0,
 mkS 50 [(1, goI b), (3, AV.os 2 0 (List.length left))]
 [Row.arr 1 (List.map encBo met), Row.dead, Row.arr 1 (List.map encI left)]) =
 r)) := by kernel_rfl
theorem rowBo {m : List Bool} {i : Nat} (h : i < m.length) : rdB (rowAt (m.map encBo) (0 + i)) 0 = m.getD i default ∧ (m.map encBo)[0 + i]? = some [goB (m.getD i default)] := by
  have e1 : rowAt (m.map encBo) i = encBo (m.getD i default) := rowAt_map h
  have e2 : (m.map encBo)[i]? = some (encBo (m.getD i default)) := rows_map h
  rw [Nat.zero_add, e1, e2]; exact ⟨rfl, rfl⟩
theorem setBo (m : List Bool) (i : Nat) (b : Bool) : (m.map encBo).set (0 + i) [goB b] = (m.set i b).map encBo := by rw [Nat.zero_add]; exact set_map encBo m i b
section
variable (ks bs : List (List AV)) (p q : Int) (bl : List XB) (hc : CodeOk bl)
/-- What (*walker).walk comes to. -/
def W64 (k : Nat) : Prop := ∀ (b : Int) (met : List Bool) (left : List Int), U.unm met ≤ k → left.length + U.unm met ≤ 999999 →
  Wf Tryd.prog H 83 [.pt 0 0 0, goI b] [.box [.sl ks, .sl bs, goI p, goI q, .sl (bl.map encB), .os 1 0 met.length, .os 2 0 left.length], .arr 1 (met.map encBo), .arr 1 (left.map encI)] =
    some (.tup [], [.box [.sl ks, .sl bs, goI p, goI q, .sl (bl.map encB), .os 1 0 (U.walkS (U.nextAt bl) k b (met, left)).1.length, .os 2 0 (U.walkS (U.nextAt bl) k b (met, left)).2.length], .arr 1 ((U.walkS (U.nextAt bl) k b (met, left)).1.map encBo), .arr 1 ((U.walkS (U.nextAt bl) k b (met, left)).2.map encI)], if U.skip met b then [] else [2])
theorem walk_skip {bl : List XB} {k : Nat} {b : Int} {met : List Bool} {left : List Int} (h : U.skip met b = true) : U.walkS (U.nextAt bl) k b (met, left) = (met, left) := by
  cases k with
  | zero => rfl
  | succ k => unfold U.walkS; rw [if_pos h]
theorem loop64 (k : Nat) (ih : W64 ks bs p q bl k) (b : Int) (t : List Int) (ht : t.length ≤ 2) : ∀ (d i : Nat) (met : List Bool) (left : List Int) (two : Bool), i + d = t.length → U.unm met ≤ k → left.length + U.unm met ≤ 999999 →
    ∃ two' : Bool, LoopTo Tryd.prog H (H 83) 3 (loopOf Tryd.prog 83 3)
      (mkS 57 [(0, .pt 0 0 0), (1, goI b), (37, .sl (t.map encI)), (38, goI t.length), (39, goI i)] [.box [.sl ks, .sl bs, goI p, goI q, .sl (bl.map encB), .os 1 0 met.length, .os 2 0 left.length], .arr 1 (met.map encBo), .arr 1 (left.map encI), .dead] (if two then [2] else []))
      (.exit 0, mkS 57 [(0, .pt 0 0 0), (1, goI b)] [.box [.sl ks, .sl bs, goI p, goI q, .sl (bl.map encB), .os 1 0 ((t.drop i).foldl (fun s t => U.walkS (U.nextAt bl) k t s) (met, left)).1.length, .os 2 0 ((t.drop i).foldl (fun s t => U.walkS (U.nextAt bl) k t s) (met, left)).2.length], .arr 1 (((t.drop i).foldl (fun s t => U.walkS (U.nextAt bl) k t s) (met, left)).1.map encBo), .arr 1 (((t.drop i).foldl (fun s t => U.walkS (U.nextAt bl) k t s) (met, left)).2.map encI), .dead] (if two' then [2] else []))
  | 0, i, met, left, two, hd, hu, hn => by
    rw [List.drop_of_length_le (by omega)]
    refine ⟨two, ?_⟩
    cases two with
    | false =>
      refine turnK (t64_3 ks bs p q bl b t t.length i met met left left false _) ?_
      rw [decide_eq_false (by omega)]; exact rfl
    | true =>
      refine turnK (t64_3m ks bs p q bl b t t.length i met met left left false _) ?_
      rw [decide_eq_false (by omega)]; exact rfl
  | d + 1, i, met, left, two, hd, hu, hn => by
    have hi : i < t.length := by omega
    have ed : t.drop i = U.nt t i :: t.drop (i + 1) := drop_cons' t hi
    have e1 : rdI (rowAt (t.map encI) i) 0 = U.nt t i := by rw [rowI hi]; rfl
    have hw := ih (U.nt t i) met left hu hn
    rw [ed, List.foldl_cons]
    cases hs : U.skip met (U.nt t i) with
    | true =>
      rw [hs, walk_skip hs] at hw
      obtain ⟨two', hl⟩ := loop64 k ih b t ht d (i + 1) met left two (by omega) hu hn
      rw [walk_skip hs]
      refine ⟨two', ?_⟩
      cases two with
      | false =>
        refine turnK (t64_3 ks bs p q bl b t t.length i met met left left true _) ?_
        rw [decide_eq_true (by omega), e1, getI hi, wrapS hi (by omega)]
        exact ⟨⟨by omega, rfl⟩, hw, hl⟩
      | true =>
        refine turnK (t64_3m ks bs p q bl b t t.length i met met left left true _) ?_
        rw [decide_eq_true (by omega), e1, getI hi, wrapS hi (by omega)]
        exact ⟨⟨by omega, rfl⟩, hw, hl⟩
    | false =>
      rw [hs] at hw
      have hf := walkS_far (nx := U.nextAt bl) k (U.nt t i) (met, left)
      generalize U.walkS (U.nextAt bl) k (U.nt t i) (met, left) = s at hw hf
      obtain ⟨m, l⟩ := s
      have f2 := hf.cap
      have f3 := hf.unm
      simp only at f2 f3
      obtain ⟨two', hl⟩ := loop64 k ih b t ht d (i + 1) m l true (by omega) (by omega) (by omega)
      refine ⟨two', ?_⟩
      cases two with
      | false =>
        refine turnK (t64_3 ks bs p q bl b t t.length i met m left l false _) ?_
        rw [decide_eq_true (by omega), e1, getI hi, wrapS hi (by omega)]
        exact ⟨⟨by omega, rfl⟩, hw, hl⟩
      | true =>
        refine turnK (t64_3m ks bs p q bl b t t.length i met m left l false _) ?_
        rw [decide_eq_true (by omega), e1, getI hi, wrapS hi (by omega)]
        exact ⟨⟨by omega, rfl⟩, hw, hl⟩
include hc in
theorem wf64 : ∀ k, W64 ks bs p q bl k := by
  intro k
  induction k with
  | zero =>
    intro b met left hu hn
    have hs := unm_zero (show U.unm met = 0 by omega) b
    rw [hs, walk_skip hs]
    refine runK (t64a ks bs p q bl b met met left left _) ?_
    unfold U.skip at hs
    by_cases h0 : b < 0
    · rw [decide_eq_true h0]; exact rfl
    by_cases h1 : b ≥ met.length
    · rw [decide_eq_false h0, decide_eq_true h1]; exact rfl
    rw [decide_eq_false h0, decide_eq_false h1, Bool.false_or, Bool.false_or] at hs
    obtain ⟨b1, b2⟩ := rowBo (m := met) (show b.toNat < met.length by omega)
    rw [decide_eq_false h0, decide_eq_false h1, b1, b2, hs]
    exact ⟨⟨by omega, by omega, by rw [List.length_map]; omega⟩, rfl, rfl⟩
  | succ k ih =>
    intro b met left hu hn
    cases hs : U.skip met b with
    | true =>
      rw [walk_skip hs]
      refine runK (t64a ks bs p q bl b met met left left _) ?_
      unfold U.skip at hs
      by_cases h0 : b < 0
      · rw [decide_eq_true h0]; exact rfl
      by_cases h1 : b ≥ met.length
      · rw [decide_eq_false h0, decide_eq_true h1]; exact rfl
      rw [decide_eq_false h0, decide_eq_false h1, Bool.false_or, Bool.false_or] at hs
      obtain ⟨b1, b2⟩ := rowBo (m := met) (show b.toNat < met.length by omega)
      rw [decide_eq_false h0, decide_eq_false h1, b1, b2, hs]
      exact ⟨⟨by omega, by omega, by rw [List.length_map]; omega⟩, rfl, rfl⟩
    | false =>
      obtain ⟨h0, h1, h2, h3⟩ := skip_no hs
      have hset := unm_set met b.toNat (by omega) h3
      obtain ⟨two, hl⟩ := loop64 ks bs p q bl k ih b (U.nextAt bl b) (nextAt_len bl b) (U.nextAt bl b).length 0 (met.set b.toNat true) left false (by omega) (by omega) (by omega)
      have hf := fold_far (nx := U.nextAt bl) k (U.nextAt bl b) (met.set b.toNat true, left)
      have e2 := hf.cap
      have e3 := hf.len
      rw [List.drop_zero] at hl
      unfold U.walkS
      rw [if_neg (by rw [hs]; simp)]
      generalize (U.nextAt bl b).foldl (fun s t => U.walkS (U.nextAt bl) k t s) (met.set b.toNat true, left) = s at hl e2 e3
      obtain ⟨m, l⟩ := s
      simp only [List.length_set] at e2 e3 hl
      obtain ⟨b1, b2⟩ := rowBo (m := met) (show b.toNat < met.length by omega)
      have h15 := wf15 ks bs p q bl b hc
      have elen : ((U.nextAt bl b).map encI).length = (U.nextAt bl b).length := List.length_map _
      have hfin : (AV.tup [], [Row.box [AV.sl ks, AV.sl bs, goI p, goI q, AV.sl (bl.map encB), AV.os 1 0 m.length, AV.os 2 0 (l.length + 1)], Row.arr 1 (m.map encBo), Row.arr 1 (l.map encI ++ [[goI b]])], [2]) =
          ((AV.tup [], [Row.box [AV.sl ks, AV.sl bs, goI p, goI q, AV.sl (bl.map encB), AV.os 1 0 m.length, AV.os 2 0 (l ++ [b]).length], Row.arr 1 (m.map encBo), Row.arr 1 ((l ++ [b]).map encI)], [2]) : AV × List Row × List Nat) := by
        rw [List.length_append, List.map_append]; rfl
      have hcap : l.length = (l.map encI).length ∧ l.length + 1 ≤ 1000000 := ⟨by rw [List.length_map], by omega⟩
      have hin : 0 ≤ b ∧ b < (met.length : Int) ∧ 0 + b.toNat < (met.map encBo).length := ⟨by omega, by omega, by rw [List.length_map]; omega⟩
      cases two with
      | false =>
        refine runK (t64a ks bs p q bl b met m left l _) ?_
        rw [decide_eq_false (by omega), decide_eq_false (by omega), b1, b2, h3, nextR_map, setBo, elen]
        exact ⟨hin, rfl, hin, rfl, h15, hl, rfl, hcap, hfin⟩
      | true =>
        refine runK (t64b ks bs p q bl b met m left l _) ?_
        rw [decide_eq_false (by omega), decide_eq_false (by omega), b1, b2, h3, nextR_map, setBo, elen]
        exact ⟨hin, rfl, hin, rfl, h15, hl, rfl, hcap, hfin⟩
/-- What ref05.walk comes to. -/
def W66 (k : Nat) : Prop := ∀ (b : Int) (met : List Bool) (left : List Int), U.unm met ≤ k → left.length + U.unm met ≤ 999999 →
  Wf Tryd.prog H 68 [.agg [.sl ks, .sl bs, goI p, goI q, .sl (bl.map encB)], goI b, .os 0 0 met.length, .os 1 0 left.length] [.arr 1 (met.map encBo), .arr 1 (left.map encI)] =
    some (.os 1 0 (U.walkS (U.nextAt bl) k b (met, left)).2.length, [.arr 1 ((U.walkS (U.nextAt bl) k b (met, left)).1.map encBo), .arr 1 ((U.walkS (U.nextAt bl) k b (met, left)).2.map encI)], if U.skip met b then [] else [1])
theorem loop66 (k : Nat) (ih : W66 ks bs p q bl k) (b : Int) (t : List Int) (ht : t.length ≤ 2) (N : Nat) : ∀ (d i : Nat) (met : List Bool) (left : List Int) (two : Bool), i + d = t.length → met.length = N → U.unm met ≤ k → left.length + U.unm met ≤ 999999 →
    ∃ two' : Bool, LoopTo Tryd.prog H (H 68) 2 (loopOf Tryd.prog 68 6)
      (mkS 50 [(1, goI b), (2, .os 0 0 N), (3, .os 1 0 left.length), (4, .pt 2 0 0), (9, .sl (t.map encI)), (10, goI i)] [.arr 1 (met.map encBo), .arr 1 (left.map encI), .box [.sl ks, .sl bs, goI p, goI q, .sl (bl.map encB)], .dead] (if two then [1] else []))
      (.exit 0, mkS 50 [(1, goI b), (3, .os 1 0 ((t.drop i).foldl (fun s t => U.walkS (U.nextAt bl) k t s) (met, left)).2.length)] [.arr 1 (((t.drop i).foldl (fun s t => U.walkS (U.nextAt bl) k t s) (met, left)).1.map encBo), .arr 1 (((t.drop i).foldl (fun s t => U.walkS (U.nextAt bl) k t s) (met, left)).2.map encI), .dead, .dead] (if two' then [1] else []))
  | 0, i, met, left, two, hd, hm, hu, hn => by
    subst hm
    have elen : (t.map encI).length = t.length := List.length_map _
    rw [List.drop_of_length_le (by omega)]
    refine ⟨two, ?_⟩
    cases two with
    | false =>
      refine turnK (t66_6 ks bs p q bl b t i met met left left false _) ?_
      rw [elen, decide_eq_false (by omega)]; exact rfl
    | true =>
      refine turnK (t66_6m ks bs p q bl b t i met met left left false _) ?_
      rw [elen, decide_eq_false (by omega)]; exact rfl
  | d + 1, i, met, left, two, hd, hm, hu, hn => by
    subst hm
    have elen : (t.map encI).length = t.length := List.length_map _
    have hi : i < t.length := by omega
    have ed : t.drop i = U.nt t i :: t.drop (i + 1) := drop_cons' t hi
    have e1 : rdI (rowAt (t.map encI) i) 0 = U.nt t i := by rw [rowI hi]; rfl
    have hw := ih (U.nt t i) met left hu hn
    rw [ed, List.foldl_cons]
    cases hs : U.skip met (U.nt t i) with
    | true =>
      rw [hs, walk_skip hs] at hw
      obtain ⟨two', hl⟩ := loop66 k ih b t ht met.length d (i + 1) met left two (by omega) rfl hu hn
      rw [walk_skip hs]
      refine ⟨two', ?_⟩
      cases two with
      | false =>
        refine turnK (t66_6 ks bs p q bl b t i met met left left true _) ?_
        rw [elen, decide_eq_true (by omega), e1, getI hi, wrapS hi (by omega)]
        exact ⟨⟨by omega, rfl⟩, hw, hl⟩
      | true =>
        refine turnK (t66_6m ks bs p q bl b t i met met left left true _) ?_
        rw [elen, decide_eq_true (by omega), e1, getI hi, wrapS hi (by omega)]
        exact ⟨⟨by omega, rfl⟩, hw, hl⟩
    | false =>
      rw [hs] at hw
      have hf := walkS_far (nx := U.nextAt bl) k (U.nt t i) (met, left)
      generalize U.walkS (U.nextAt bl) k (U.nt t i) (met, left) = s at hw hf
      obtain ⟨m, l⟩ := s
      have f1 := hf.len
      have f2 := hf.cap
      have f3 := hf.unm
      simp only at f1 f2 f3
      obtain ⟨two', hl⟩ := loop66 k ih b t ht met.length d (i + 1) m l true (by omega) f1 (by omega) (by omega)
      refine ⟨two', ?_⟩
      cases two with
      | false =>
        refine turnK (t66_6 ks bs p q bl b t i met m left l false _) ?_
        rw [elen, decide_eq_true (by omega), e1, getI hi, wrapS hi (by omega)]
        exact ⟨⟨by omega, rfl⟩, hw, hl⟩
      | true =>
        refine turnK (t66_6m ks bs p q bl b t i met m left l false _) ?_
        rw [elen, decide_eq_true (by omega), e1, getI hi, wrapS hi (by omega)]
        exact ⟨⟨by omega, rfl⟩, hw, hl⟩
theorem loop66n (k : Nat) (ih : W66 ks bs p q bl k) (b : Int) (t : List Int) (ht : t.length ≤ 2) (N : Nat) : ∀ (d i : Nat) (met : List Bool) (left : List Int), i + d = t.length → met.length = N → U.unm met ≤ k → left.length + U.unm met ≤ 999999 →
    LoopTo Tryd.prog H (H 68) 1 (loopOf Tryd.prog 68 6)
      (mkS 50 [(1, goI b), (2, .os 0 0 N), (3, .os 2 0 left.length), (4, .pt 1 0 0), (9, .sl (t.map encI)), (10, goI i)] [.arr 1 (met.map encBo), .box [.sl ks, .sl bs, goI p, goI q, .sl (bl.map encB)], .arr 1 (left.map encI)])
      (.exit 0, mkS 50 [(1, goI b), (3, .os 2 0 ((t.drop i).foldl (fun s t => U.walkS (U.nextAt bl) k t s) (met, left)).2.length)] [.arr 1 (((t.drop i).foldl (fun s t => U.walkS (U.nextAt bl) k t s) (met, left)).1.map encBo), .dead, .arr 1 (((t.drop i).foldl (fun s t => U.walkS (U.nextAt bl) k t s) (met, left)).2.map encI)])
  | 0, i, met, left, hd, hm, hu, hn => by
    subst hm
    have elen : (t.map encI).length = t.length := List.length_map _
    rw [List.drop_of_length_le (by omega)]
    refine turnK (t66n_6 ks bs p q bl b t i met met left left false _) ?_
    rw [elen, decide_eq_false (by omega)]; exact rfl
  | d + 1, i, met, left, hd, hm, hu, hn => by
    subst hm
    have elen : (t.map encI).length = t.length := List.length_map _
    have hi : i < t.length := by omega
    have ed : t.drop i = U.nt t i :: t.drop (i + 1) := drop_cons' t hi
    have e1 : rdI (rowAt (t.map encI) i) 0 = U.nt t i := by rw [rowI hi]; rfl
    have hw := ih (U.nt t i) met left hu hn
    rw [ed, List.foldl_cons]
    cases hs : U.skip met (U.nt t i) with
    | true =>
      rw [hs, walk_skip hs] at hw
      have hl := loop66n k ih b t ht met.length d (i + 1) met left (by omega) rfl hu hn
      rw [walk_skip hs]
      refine turnK (t66n_6 ks bs p q bl b t i met met left left true _) ?_
      rw [elen, decide_eq_true (by omega), e1, getI hi, wrapS hi (by omega)]
      exact ⟨⟨by omega, rfl⟩, hw, hl⟩
    | false =>
      rw [hs] at hw
      have hf := walkS_far (nx := U.nextAt bl) k (U.nt t i) (met, left)
      generalize U.walkS (U.nextAt bl) k (U.nt t i) (met, left) = s at hw hf
      obtain ⟨m, l⟩ := s
      have f1 := hf.len
      have f2 := hf.cap
      have f3 := hf.unm
      simp only at f1 f2 f3
      have hl := loop66n k ih b t ht met.length d (i + 1) m l (by omega) f1 (by omega) (by omega)
      refine turnK (t66n_6 ks bs p q bl b t i met m left l false _) ?_
      rw [elen, decide_eq_true (by omega), e1, getI hi, wrapS hi (by omega)]
      exact ⟨⟨by omega, rfl⟩, hw, hl⟩
theorem wf66_skip {bl : List XB} (b : Int) (met : List Bool) (left : List Int) (hs : U.skip met b = true) :
    Wf Tryd.prog H 68 [.agg [.sl ks, .sl bs, goI p, goI q, .sl (bl.map encB)], goI b, .os 0 0 met.length, .os 1 0 left.length] [.arr 1 (met.map encBo), .arr 1 (left.map encI)] =
      some (.os 1 0 left.length, [.arr 1 (met.map encBo), .arr 1 (left.map encI)], []) := by
  refine runK (t66a ks bs p q bl b met met left left _) ?_
  unfold U.skip at hs
  by_cases h0 : b < 0
  · rw [decide_eq_true h0]; exact rfl
  by_cases h1 : b ≥ met.length
  · rw [decide_eq_false h0, decide_eq_true h1]; exact rfl
  rw [decide_eq_false h0, decide_eq_false h1, Bool.false_or, Bool.false_or] at hs
  obtain ⟨b1, b2⟩ := rowBo (m := met) (show b.toNat < met.length by omega)
  rw [decide_eq_false h0, decide_eq_false h1, b1, b2, hs]
  exact ⟨⟨by omega, by omega, by rw [List.length_map]; omega⟩, rfl, rfl⟩
include hc in
theorem wf66 : ∀ k, W66 ks bs p q bl k := by
  intro k
  induction k with
  | zero =>
    intro b met left hu hn
    have hs := unm_zero (show U.unm met = 0 by omega) b
    rw [hs, walk_skip hs]
    exact wf66_skip ks bs p q b met left hs
  | succ k ih =>
    intro b met left hu hn
    cases hs : U.skip met b with
    | true =>
      rw [walk_skip hs]
      exact wf66_skip ks bs p q b met left hs
    | false =>
      obtain ⟨h0, h1, h2, h3⟩ := skip_no hs
      have hset := unm_set met b.toNat (by omega) h3
      obtain ⟨two, hl⟩ := loop66 ks bs p q bl k ih b (U.nextAt bl b) (nextAt_len bl b) met.length (U.nextAt bl b).length 0 (met.set b.toNat true) left false (by omega) (by rw [List.length_set]) (by omega) (by omega)
      have hf := fold_far (nx := U.nextAt bl) k (U.nextAt bl b) (met.set b.toNat true, left)
      have e2 := hf.cap
      have e3 := hf.len
      rw [List.drop_zero] at hl
      unfold U.walkS
      rw [if_neg (by rw [hs]; simp)]
      generalize (U.nextAt bl b).foldl (fun s t => U.walkS (U.nextAt bl) k t s) (met.set b.toNat true, left) = s at hl e2 e3
      obtain ⟨m, l⟩ := s
      simp only [List.length_set] at e2 e3 hl
      obtain ⟨b1, b2⟩ := rowBo (m := met) (show b.toNat < met.length by omega)
      have h16 := wf16 ks bs p q bl b hc
      have hfin : (AV.os 1 0 (l.length + 1), [Row.arr 1 (m.map encBo), Row.arr 1 (l.map encI ++ [[goI b]])], [1]) =
          ((AV.os 1 0 (l ++ [b]).length, [Row.arr 1 (m.map encBo), Row.arr 1 ((l ++ [b]).map encI)], [1]) : AV × List Row × List Nat) := by
        rw [List.length_append, List.map_append]; rfl
      have hcap : l.length = (l.map encI).length ∧ l.length + 1 ≤ 1000000 := ⟨by rw [List.length_map], by omega⟩
      have hin : 0 ≤ b ∧ b < (met.length : Int) ∧ 0 + b.toNat < (met.map encBo).length := ⟨by omega, by omega, by rw [List.length_map]; omega⟩
      cases two with
      | false =>
        refine runK (t66a ks bs p q bl b met m left l _) ?_
        rw [decide_eq_false (by omega), decide_eq_false (by omega), b1, b2, h3, nextR_map, setBo]
        exact ⟨hin, rfl, hin, rfl, h16, hl, rfl, hcap, hfin⟩
      | true =>
        refine runK (t66b ks bs p q bl b met m left l _) ?_
        rw [decide_eq_false (by omega), decide_eq_false (by omega), b1, b2, h3, nextR_map, setBo]
        exact ⟨hin, rfl, hin, rfl, h16, hl, rfl, hcap, hfin⟩
include hc in
/-- .. with nothing left so far. -/
theorem wf66n (k : Nat) (b : Int) (met : List Bool) (hu : U.unm met ≤ k + 1) (hn : U.unm met ≤ 999999) (hs : U.skip met b = false) :
    Wf Tryd.prog H 68 [.agg [.sl ks, .sl bs, goI p, goI q, .sl (bl.map encB)], goI b, .os 0 0 met.length, .nil] [.arr 1 (met.map encBo)] =
      some (.os 1 0 (U.walkS (U.nextAt bl) (k + 1) b (met, [])).2.length, [.arr 1 ((U.walkS (U.nextAt bl) (k + 1) b (met, [])).1.map encBo), .arr 1 ((U.walkS (U.nextAt bl) (k + 1) b (met, [])).2.map encI)], []) := by
  obtain ⟨h0, h1, h2, h3⟩ := skip_no hs
  have hset := unm_set met b.toNat (by omega) h3
  have hl := loop66n ks bs p q bl k (wf66 ks bs p q bl hc k) b (U.nextAt bl b) (nextAt_len bl b) met.length (U.nextAt bl b).length 0 (met.set b.toNat true) [] (by omega) (by rw [List.length_set]) (by omega) (by rw [List.length_nil]; omega)
  have hf := fold_far (nx := U.nextAt bl) k (U.nextAt bl b) (met.set b.toNat true, [])
  have e2 := hf.cap
  have e3 := hf.len
  rw [List.drop_zero] at hl
  unfold U.walkS
  rw [if_neg (by rw [hs]; simp)]
  generalize (U.nextAt bl b).foldl (fun s t => U.walkS (U.nextAt bl) k t s) (met.set b.toNat true, []) = s at hl e2 e3
  obtain ⟨m, l⟩ := s
  simp only [List.length_set, List.length_nil] at e2 e3 hl
  obtain ⟨b1, b2⟩ := rowBo (m := met) (show b.toNat < met.length by omega)
  have h16 := wf16 ks bs p q bl b hc
  have hfin : (AV.os 1 0 (l.length + 1), [Row.arr 1 (m.map encBo), Row.arr 1 (l.map encI ++ [[goI b]])], []) =
      ((AV.os 1 0 (l ++ [b]).length, [Row.arr 1 (m.map encBo), Row.arr 1 ((l ++ [b]).map encI)], []) : AV × List Row × List Nat) := by
    rw [List.length_append, List.map_append]; rfl
  have hcap : l.length = (l.map encI).length ∧ l.length + 1 ≤ 1000000 := ⟨by rw [List.length_map], by omega⟩
  have hin : 0 ≤ b ∧ b < (met.length : Int) ∧ 0 + b.toNat < (met.map encBo).length := ⟨by omega, by omega, by rw [List.length_map]; omega⟩
  refine runK (t66n ks bs p q bl b met m l _) ?_
  rw [decide_eq_false (by omega), decide_eq_false (by omega), b1, b2, h3, nextR_map, setBo]
  exact ⟨hin, rfl, hin, rfl, h16, hl, rfl, hcap, hfin⟩
end
end Go.Proofs.YtabdcfcnngnnoaaDoor.E
