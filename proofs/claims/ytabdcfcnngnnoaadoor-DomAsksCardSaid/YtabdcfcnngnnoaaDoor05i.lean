/- Functions, by what the evaluator asks; the theorems t.. were printed by show.txt, a program of this session. -/
import Derived.Test.YtabdcfcnngnnoaaDoor05h
set_option linter.unusedVariables false
set_option linter.unusedSectionVars false
set_option linter.unusedSimpArgs false
set_option maxRecDepth 100000
namespace Go.Proofs.YtabdcfcnngnnoaaDoor.E
open Go
def bxF (ks bs : List (List AV)) (p q : Int) (bl : List XB) : List Row := [.box [.sl ks, .sl bs, goI p, goI q, .sl (bl.map encB)]]
namespace U
def nextR (bl : List (List AV)) (n : Int) : List (List AV) := (nextAt (bl.map decB) n).map encI
def hasR (l : List (List AV)) (n : Int) : Bool := hasI (decI l) n
end U
def FN : CallT := fun f args sto => match f, args with
 | 76, [.agg [_, _, _, _, .sl bl], .v (.int _ n)] => .is (.sl (U.nextR bl n), [], [])
 | 58, [.agg [_, _, _, _, .sl bl], .v (.int _ n)] => .is (.sl (U.nextR bl n), [], [])
 | 75, [.sl l, .v (.int _ n)] => .is (goB (U.hasR l n), [], [])
 | _, _ => .no
def L17 (n : Nat) (l : List Int) : Nat → St → LT := fun id st => .is (.exit 0) (mkS n [(5, .os 1 0 l.length)] [.dead, .arr 1 (l.map encI)])
structure XE where
  src : Int
  dst : Int
  deriving DecidableEq, Inhabited
def encE (x : XE) : List AV := [goI x.src, goI x.dst]
def L20 (n : Nat) (l : List XE) : Nat → St → LT := fun id st => .is (.exit 0) (mkS n [(3, .os 1 0 l.length)] [.dead, .arr 2 (l.map encE)])
def L206 (k : Int) (i : Nat) (l : List XE) : Nat → St → LT := fun id st => .is (.exit 2) (mkS 30 [(1, .pt 0 0 0), (3, .os 1 0 l.length), (9, goI k), (10, goI i)] [st.sto.getD 0 .dead, .arr 2 (l.map encE)])
def L217 (i : Nat) (l : List XE) : Nat → St → LT := fun id st => .is (.exit 2) (mkS 33 [(1, .pt 0 0 0), (3, .os 1 0 l.length), (4, goI i)] [st.sto.getD 0 .dead, .arr 2 (l.map encE)])
def L22 (n : Nat) (v : Int) : Nat → St → LT := fun id st => .is (.exit 0) (mkS n [(3, goI v)] st.sto)

theorem t17 (ks : List (List AV)) (bs : List (List AV)) (p : Int) (q : Int) (bl : List XB) (n : Int) (l : List Int) (r : AV × List Row × List Nat) : (runT Tryd.prog H FN (L17 33 l) false 57 [AV.agg [AV.sl ks, AV.sl bs, goI p, goI q, AV.sl (List.map encB bl)], goI n] []
 fun q => q = r) = (TB (decide (n < 0)) ((AV.sl [], [], []) = r)
 (TB (decide (n ≥ (↑(List.length (List.map encB bl)) : Int))) ((AV.sl [], [], []) = r)
 (LoopTo Tryd.prog H (H 57) 0 (loopOf Tryd.prog 57 5)
 (mkS 33
 [(1, goI n), (2, AV.pt 0 0 0), (5, AV.os 1 0 0), (18, goI (↑(List.length (List.map encB bl)) : Int)),
 (19, goI 0)]
 [Row.box [AV.sl ks, AV.sl bs, goI p, goI q, AV.sl (List.map encB bl)], Row.arr 1 []])
 (Ex.exit 0, mkS 33 [(5, AV.os 1 0 (List.length l))] [Row.dead, Row.arr 1 (List.map encI l)]) ∧
 (AV.os 0 0 (List.length l), [Row.arr 1 (List.map encI l)], []) = r))) := by kernel_rfl
theorem t17_5 (ks : List (List AV)) (bs : List (List AV)) (p : Int) (q : Int) (bl : List XB) (n : Int) (k : Int) (i : Nat) (l : List Int) (r : Ex × St) : (turnT Tryd.prog H FN L0 false (H 57) 0 (loopOf Tryd.prog 57 5)
 (mkS 33 [(1, goI n), (2, AV.pt 0 0 0), (5, AV.os 1 0 (List.length l)), (18, goI k), (19, goI (↑i : Int))]
 [Row.box [AV.sl ks, AV.sl bs, goI p, goI q, AV.sl (List.map encB bl)], Row.arr 1 (List.map encI l)])
 r) = (TB (decide ((↑i : Int) < k))
 (Wf Tryd.prog H 76 [AV.agg [AV.sl ks, AV.sl bs, goI p, goI q, AV.sl (List.map encB bl)], goI (↑i : Int)] [] =
 some (AV.sl (U.nextR (List.map encB bl) (↑i : Int)), [], []) ∧
 Wf Tryd.prog H 75 [AV.sl (U.nextR (List.map encB bl) (↑i : Int)), goI n] [] =
 some (goB (U.hasR (U.nextR (List.map encB bl) (↑i : Int)) n), [], []) ∧
 TB (U.hasR (U.nextR (List.map encB bl) (↑i : Int)) n)
 (true = true ∧
 (List.length l = List.length (List.map encI l) ∧ List.length l + 1 ≤ 1000000) ∧
 LoopTo Tryd.prog H (H 57) 0 (loopOf Tryd.prog 57 5)
 (mkS 33
 [(1, goI n), (2, AV.pt 0 0 0), (5, AV.os 1 0 (List.length l + 1)), (18, goI k),
 (19, goI (IntKind.wrap IntKind.i64 ((↑i : Int) + 1)))]
 [Row.box [AV.sl ks, AV.sl bs, goI p, goI q, AV.sl (List.map encB bl)],
 Row.arr 1 (List.map encI l ++ [[goI (↑i : Int)]])])
 r)
 (LoopTo Tryd.prog H (H 57) 0 (loopOf Tryd.prog 57 5)
 (mkS 33
 [(1, goI n), (2, AV.pt 0 0 0), (5, AV.os 1 0 (List.length l)), (18, goI k),
 (19, goI (IntKind.wrap IntKind.i64 ((↑i : Int) + 1)))]
 [Row.box [AV.sl ks, AV.sl bs, goI p, goI q, AV.sl (List.map encB bl)], Row.arr 1 (List.map encI l)])
 r))
 ((Ex.exit 0, mkS 33 [(5, AV.os 1 0 (List.length l))] [Row.dead, Row.arr 1 (List.map encI l)]) = r)) := by kernel_rfl
theorem t20 (ks : List (List AV)) (bs : List (List AV)) (p : Int) (q : Int) (bl : List XB) (l : List XE) (r : AV × List Row × List Nat) : (runT Tryd.prog H FN (L20 30 l) false 66 [AV.agg [AV.sl ks, AV.sl bs, goI p, goI q, AV.sl (List.map encB bl)]] [] fun q =>
 q = r) = (LoopTo Tryd.prog H (H 66) 0 (loopOf Tryd.prog 66 3)
 (mkS 30 [(1, AV.pt 0 0 0), (3, AV.os 1 0 0), (9, goI (↑(List.length (List.map encB bl)) : Int)), (10, goI 0)]
 [Row.box [AV.sl ks, AV.sl bs, goI p, goI q, AV.sl (List.map encB bl)], Row.arr 2 []])
 (Ex.exit 0, mkS 30 [(3, AV.os 1 0 (List.length l))] [Row.dead, Row.arr 2 (List.map encE l)]) ∧
 (AV.os 0 0 (List.length l), [Row.arr 2 (List.map encE l)], []) = r) := by kernel_rfl
theorem t20_3 (ks : List (List AV)) (bs : List (List AV)) (p : Int) (q : Int) (bl : List XB) (k : Int) (i : Nat) (l : List XE) (m : List XE) (r : Ex × St) : (turnT Tryd.prog H FN (L206 k i m) false (H 66) 0 (loopOf Tryd.prog 66 3)
 (mkS 30 [(1, AV.pt 0 0 0), (3, AV.os 1 0 (List.length l)), (9, goI k), (10, goI (↑i : Int))]
 [Row.box [AV.sl ks, AV.sl bs, goI p, goI q, AV.sl (List.map encB bl)], Row.arr 2 (List.map encE l)])
 r) = (TB (decide ((↑i : Int) < k))
 (Wf Tryd.prog H 76 [AV.agg [AV.sl ks, AV.sl bs, goI p, goI q, AV.sl (List.map encB bl)], goI (↑i : Int)] [] =
 some (AV.sl (U.nextR (List.map encB bl) (↑i : Int)), [], []) ∧
 LoopTo Tryd.prog H (H 66) 0 (loopOf Tryd.prog 66 6)
 (mkS 30
 [(1, AV.pt 0 0 0), (3, AV.os 1 0 (List.length l)), (4, goI (↑i : Int)), (9, goI k), (10, goI (↑i : Int)),
 (15, AV.sl (U.nextR (List.map encB bl) (↑i : Int))),
 (16, goI (↑(List.length (U.nextR (List.map encB bl) (↑i : Int))) : Int)), (17, goI 0)]
 [Row.box [AV.sl ks, AV.sl bs, goI p, goI q, AV.sl (List.map encB bl)], Row.arr 2 (List.map encE l)])
 (Ex.exit 2,
 mkS 30 [(1, AV.pt 0 0 0), (3, AV.os 1 0 (List.length m)), (9, goI k), (10, goI (↑i : Int))]
 [Row.box [AV.sl ks, AV.sl bs, goI p, goI q, AV.sl (List.map encB bl)], Row.arr 2 (List.map encE m)]) ∧
 LoopTo Tryd.prog H (H 66) 0 (loopOf Tryd.prog 66 3)
 (mkS 30
 [(1, AV.pt 0 0 0), (3, AV.os 1 0 (List.length m)), (9, goI k),
 (10, goI (IntKind.wrap IntKind.i64 ((↑i : Int) + 1)))]
 [Row.box [AV.sl ks, AV.sl bs, goI p, goI q, AV.sl (List.map encB bl)], Row.arr 2 (List.map encE m)])
 r)
 ((Ex.exit 0, mkS 30 [(3, AV.os 1 0 (List.length l))] [Row.dead, Row.arr 2 (List.map encE l)]) = r)) := by kernel_rfl
theorem t20_6 (ks : List (List AV)) (bs : List (List AV)) (p : Int) (q : Int) (bl : List XB) (k : Int) (i : Nat) (t : List Int) (c : Int) (j : Nat) (l : List XE) (r : Ex × St) : (turnT Tryd.prog H FN L0 false (H 66) 0 (loopOf Tryd.prog 66 6)
 (mkS 30
 [(1, AV.pt 0 0 0), (3, AV.os 1 0 (List.length l)), (4, goI (↑i : Int)), (9, goI k), (10, goI (↑i : Int)),
 (15, AV.sl (List.map encI t)), (16, goI c), (17, goI (↑j : Int))]
 [Row.box [AV.sl ks, AV.sl bs, goI p, goI q, AV.sl (List.map encB bl)], Row.arr 2 (List.map encE l)])
 r) = (TB (decide ((↑j : Int) < c))
 ((0 ≤ (↑j : Int) ∧ (List.map encI t)[j]? = some [goI (rdI (rowAt (List.map encI t) j) 0)]) ∧
 true = true ∧
 (List.length l = List.length (List.map encE l) ∧ List.length l + 1 ≤ 1000000) ∧
 LoopTo Tryd.prog H (H 66) 0 (loopOf Tryd.prog 66 6)
 (mkS 30
 [(1, AV.pt 0 0 0), (3, AV.os 1 0 (List.length l + 1)), (4, goI (↑i : Int)), (9, goI k),
 (10, goI (↑i : Int)), (15, AV.sl (List.map encI t)), (16, goI c),
 (17, goI (IntKind.wrap IntKind.i64 ((↑j : Int) + 1)))]
 [Row.box [AV.sl ks, AV.sl bs, goI p, goI q, AV.sl (List.map encB bl)],
 Row.arr 2 (List.map encE l ++ [[goI (↑i : Int), goI (rdI (rowAt (List.map encI t) j) 0)]])])
 r)
 ((Ex.exit 2,
 mkS 30 [(1, AV.pt 0 0 0), (3, AV.os 1 0 (List.length l)), (9, goI k), (10, goI (↑i : Int))]
 [Row.box [AV.sl ks, AV.sl bs, goI p, goI q, AV.sl (List.map encB bl)], Row.arr 2 (List.map encE l)]) =
 r)) := by kernel_rfl
theorem t21 (ks : List (List AV)) (bs : List (List AV)) (p : Int) (q : Int) (bl : List XB) (l : List XE) (r : AV × List Row × List Nat) : (runT Tryd.prog H FN (L20 33 l) false 34 [AV.agg [AV.sl ks, AV.sl bs, goI p, goI q, AV.sl (List.map encB bl)]] [] fun q =>
 q = r) = (LoopTo Tryd.prog H (H 34) 0 (loopOf Tryd.prog 34 3)
 (mkS 33 [(1, AV.pt 0 0 0), (3, AV.os 1 0 0), (4, goI 0)]
 [Row.box [AV.sl ks, AV.sl bs, goI p, goI q, AV.sl (List.map encB bl)], Row.arr 2 []])
 (Ex.exit 0, mkS 33 [(3, AV.os 1 0 (List.length l))] [Row.dead, Row.arr 2 (List.map encE l)]) ∧
 (AV.os 0 0 (List.length l), [Row.arr 2 (List.map encE l)], []) = r) := by kernel_rfl
theorem t21_3 (ks : List (List AV)) (bs : List (List AV)) (p : Int) (q : Int) (bl : List XB) (i : Nat) (l : List XE) (m : List XE) (r : Ex × St) : (turnT Tryd.prog H FN (L217 i m) false (H 34) 0 (loopOf Tryd.prog 34 3)
 (mkS 33 [(1, AV.pt 0 0 0), (3, AV.os 1 0 (List.length l)), (4, goI (↑i : Int))]
 [Row.box [AV.sl ks, AV.sl bs, goI p, goI q, AV.sl (List.map encB bl)], Row.arr 2 (List.map encE l)])
 r) = (TB (decide ((↑i : Int) < (↑(List.length (List.map encB bl)) : Int)))
 (Wf Tryd.prog H 58 [AV.agg [AV.sl ks, AV.sl bs, goI p, goI q, AV.sl (List.map encB bl)], goI (↑i : Int)] [] =
 some (AV.sl (U.nextR (List.map encB bl) (↑i : Int)), [], []) ∧
 LoopTo Tryd.prog H (H 34) 0 (loopOf Tryd.prog 34 7)
 (mkS 33
 [(1, AV.pt 0 0 0), (3, AV.os 1 0 (List.length l)), (4, goI (↑i : Int)),
 (5, AV.sl (U.nextR (List.map encB bl) (↑i : Int))), (6, goI 0)]
 [Row.box [AV.sl ks, AV.sl bs, goI p, goI q, AV.sl (List.map encB bl)], Row.arr 2 (List.map encE l)])
 (Ex.exit 2,
 mkS 33 [(1, AV.pt 0 0 0), (3, AV.os 1 0 (List.length m)), (4, goI (↑i : Int))]
 [Row.box [AV.sl ks, AV.sl bs, goI p, goI q, AV.sl (List.map encB bl)], Row.arr 2 (List.map encE m)]) ∧
 LoopTo Tryd.prog H (H 34) 0 (loopOf Tryd.prog 34 3)
 (mkS 33 [(1, AV.pt 0 0 0), (3, AV.os 1 0 (List.length m)), (4, goI (IntKind.wrap IntKind.i64 ((↑i : Int) + 1)))]
 [Row.box [AV.sl ks, AV.sl bs, goI p, goI q, AV.sl (List.map encB bl)], Row.arr 2 (List.map encE m)])
 r)
 ((Ex.exit 0, mkS 33 [(3, AV.os 1 0 (List.length l))] [Row.dead, Row.arr 2 (List.map encE l)]) = r)) := by kernel_rfl
theorem t21_7 (ks : List (List AV)) (bs : List (List AV)) (p : Int) (q : Int) (bl : List XB) (i : Nat) (t : List Int) (j : Nat) (l : List XE) (r : Ex × St) : (turnT Tryd.prog H FN L0 false (H 34) 0 (loopOf Tryd.prog 34 7)
 (mkS 33
 [(1, AV.pt 0 0 0), (3, AV.os 1 0 (List.length l)), (4, goI (↑i : Int)), (5, AV.sl (List.map encI t)),
 (6, goI (↑j : Int))]
 [Row.box [AV.sl ks, AV.sl bs, goI p, goI q, AV.sl (List.map encB bl)], Row.arr 2 (List.map encE l)])
 r) = (TB (decide ((↑j : Int) < (↑(List.length (List.map encI t)) : Int)))
 ((0 ≤ (↑j : Int) ∧ (List.map encI t)[j]? = some [goI (rdI (rowAt (List.map encI t) j) 0)]) ∧
 true = true ∧
 (List.length l = List.length (List.map encE l) ∧ List.length l + 1 ≤ 1000000) ∧
 LoopTo Tryd.prog H (H 34) 0 (loopOf Tryd.prog 34 7)
 (mkS 33
 [(1, AV.pt 0 0 0), (3, AV.os 1 0 (List.length l + 1)), (4, goI (↑i : Int)), (5, AV.sl (List.map encI t)),
 (6, goI (IntKind.wrap IntKind.i64 ((↑j : Int) + 1)))]
 [Row.box [AV.sl ks, AV.sl bs, goI p, goI q, AV.sl (List.map encB bl)],
 Row.arr 2 (List.map encE l ++ [[goI (↑i : Int), goI (rdI (rowAt (List.map encI t) j) 0)]])])
 r)
 ((Ex.exit 2,
 mkS 33 [(1, AV.pt 0 0 0), (3, AV.os 1 0 (List.length l)), (4, goI (↑i : Int))]
 [Row.box [AV.sl ks, AV.sl bs, goI p, goI q, AV.sl (List.map encB bl)], Row.arr 2 (List.map encE l)]) =
 r)) := by kernel_rfl
theorem t19 (a : List XE) (b : List XE) (s : Bool) (r : AV × List Row × List Nat) : (runT Tryd.prog H (fun f args sto => CT.of (F0 f args sto)) (L14 s) false 20
 [AV.sl (List.map encE a), AV.sl (List.map encE b)] [] fun q => q = r) = (TB (!(↑(List.length (List.map encE a)) : Int) == (↑(List.length (List.map encE b)) : Int)) ((goB false, [], []) = r)
 (TB s
 (LoopTo Tryd.prog H (H 20) 0 (loopOf Tryd.prog 20 4)
 (mkS 26 [(0, AV.sl (List.map encE a)), (1, AV.sl (List.map encE b)), (5, goI 0)]) (Ex.exit 0, mkS 26 []) ∧
 (goB true, [], []) = r)
 (LoopTo Tryd.prog H (H 20) 0 (loopOf Tryd.prog 20 4)
 (mkS 26 [(0, AV.sl (List.map encE a)), (1, AV.sl (List.map encE b)), (5, goI 0)])
 (Ex.ret, mkS 26 [(4, goB false)]) ∧
 (goB false, [], []) = r))) := by kernel_rfl
theorem t19_4 (a : List XE) (b : List XE) (i : Nat) (r : Ex × St) : (turnT Tryd.prog H (fun f args sto => CT.of (F0 f args sto)) L0 false (H 20) 0 (loopOf Tryd.prog 20 4)
 (mkS 26 [(0, AV.sl (List.map encE a)), (1, AV.sl (List.map encE b)), (5, goI (↑i : Int))]) r) = (TB (decide ((↑i : Int) < (↑(List.length (List.map encE a)) : Int)))
 ((0 ≤ (↑i : Int) ∧
 (List.map encE a)[i]? = some [goI (rdI (rowAt (List.map encE a) i) 0), goI (rdI (rowAt (List.map encE a) i) 1)]) ∧
 (0 ≤ (↑i : Int) ∧
 (List.map encE b)[i]? =
 some [goI (rdI (rowAt (List.map encE b) i) 0), goI (rdI (rowAt (List.map encE b) i) 1)]) ∧
 TB
 (!(rdI (rowAt (List.map encE a) i) 0 == rdI (rowAt (List.map encE b) i) 0 &&
 (rdI (rowAt (List.map encE a) i) 1 == rdI (rowAt (List.map encE b) i) 1 && true)))
 ((Ex.ret, mkS 26 [(4, goB false)]) = r)
 (LoopTo Tryd.prog H (H 20) 0 (loopOf Tryd.prog 20 4)
 (mkS 26
 [(0, AV.sl (List.map encE a)), (1, AV.sl (List.map encE b)),
 (5, goI (IntKind.wrap IntKind.i64 ((↑i : Int) + 1)))])
 r))
 ((Ex.exit 0, mkS 26 []) = r)) := by kernel_rfl
namespace U
def edg (l : List XE) (i : Nat) : XE := l.getD i default
/-- The blocks from i on, d of them, that lead to n. -/
def prevFrom (bl : List XB) (n : Int) : Nat → Nat → List Int
  | 0, _ => []
  | d + 1, i => (if (decide (n ≥ 0) && (decide (n < bl.length) && hasI (nextAt bl i) n)) = true then [(i : Int)] else []) ++ prevFrom bl n d (i + 1)
def prevAt (bl : List XB) (n : Int) : List Int := prevFrom bl n bl.length 0
def edgeTo (i : Nat) (t : List Int) : List XE := t.map fun to => ⟨i, to⟩
def edgesFrom (bl : List XB) : Nat → Nat → List XE
  | 0, _ => []
  | d + 1, i => edgeTo i (nextAt bl i) ++ edgesFrom bl d (i + 1)
def edges (bl : List XB) : List XE := edgesFrom bl bl.length 0
def size : List XB → Int
  | [] => 0
  | b :: l => b.code.length + size l
end U
theorem rowE {l : List XE} {i : Nat} (h : i < l.length) : rowAt (l.map encE) i = encE (U.edg l i) := rowAt_map h
theorem getE {l : List XE} {i : Nat} (h : i < l.length) : (l.map encE)[i]? = some (encE (U.edg l i)) := rows_map h
theorem edg_mem {l : List XE} {i : Nat} (h : i < l.length) : U.edg l i ∈ l := getD_mem h
theorem nextR_map (bl : List XB) (n : Int) : U.nextR (bl.map encB) n = (U.nextAt bl n).map encI := by unfold U.nextR; rw [decBs_map]
theorem hasR_map (l : List Int) (n : Int) : U.hasR (l.map encI) n = U.hasI l n := by unfold U.hasR; rw [decI_map]
theorem out_prev {bl : List XB} {n : Int} (h : n < 0 ∨ n ≥ bl.length) : ∀ d i, U.prevFrom bl n d i = []
  | 0, i => rfl
  | d + 1, i => by
    have e : (decide (n ≥ 0) && (decide (n < bl.length) && U.hasI (U.nextAt bl i) n)) = false := by
      rcases h with h | h
      · rw [decide_eq_false (by omega)]; rfl
      · rw [decide_eq_false (show ¬ n < bl.length by omega)]; cases decide (n ≥ 0) <;> rfl
    unfold U.prevFrom
    rw [e, out_prev h d (i + 1)]; rfl
section
variable (ks bs : List (List AV)) (p q : Int) (bl : List XB) (hc : CodeOk bl) (hl : bl.length ≤ 3000)
include hc hl
theorem loop17_5 (n : Int) (h0 : 0 ≤ n) (h1 : n < bl.length) : ∀ (d i : Nat) (l : List Int), i + d = bl.length → l.length ≤ i →
    LoopTo Tryd.prog H (H 57) 0 (loopOf Tryd.prog 57 5) (mkS 33 [(1, goI n), (2, .pt 0 0 0), (5, .os 1 0 l.length), (18, goI bl.length), (19, goI i)] [.box [.sl ks, .sl bs, goI p, goI q, .sl (bl.map encB)], .arr 1 (l.map encI)])
      (.exit 0, mkS 33 [(5, .os 1 0 (l ++ U.prevFrom bl n d i).length)] [.dead, .arr 1 ((l ++ U.prevFrom bl n d i).map encI)])
  | 0, i, l, hd, hll => by
    refine turnK (t17_5 ks bs p q bl n bl.length i l _) ?_
    rw [decide_eq_false (by omega), show U.prevFrom bl n 0 i = [] from rfl, List.append_nil]
    exact rfl
  | d + 1, i, l, hd, hll => by
    have hi : i < bl.length := by omega
    refine turnK (t17_5 ks bs p q bl n bl.length i l _) ?_
    rw [decide_eq_true (by omega), wrapS hi (by omega), nextR_map, hasR_map]
    refine ⟨wf15 ks bs p q bl i hc, wf47 _ n (by have := nextAt_len bl i; omega), ?_⟩
    have e : U.prevFrom bl n (d + 1) i = (if U.hasI (U.nextAt bl i) n = true then [(i : Int)] else []) ++ U.prevFrom bl n d (i + 1) := by
      show (if (decide (n ≥ 0) && (decide (n < bl.length) && U.hasI (U.nextAt bl i) n)) = true then [(i : Int)] else []) ++ _ = _
      rw [decide_eq_true (show n ≥ 0 from h0), decide_eq_true h1, Bool.true_and, Bool.true_and]
    rw [e]
    cases hh : U.hasI (U.nextAt bl i) n with
    | true =>
      have ih := loop17_5 n h0 h1 d (i + 1) (l ++ [(i : Int)]) (by omega) (by simp; omega)
      rw [List.append_assoc] at ih
      simp only [List.length_append, List.length_singleton, List.map_append, List.map_cons, List.map_nil] at ih
      refine ⟨rfl, ⟨(List.length_map _).symm, by omega⟩, ?_⟩
      rw [if_pos rfl]
      simp only [List.length_append, List.length_singleton, List.map_append, List.map_cons, List.map_nil]
      exact ih
    | false =>
      have ih := loop17_5 n h0 h1 d (i + 1) l (by omega) (by omega)
      rw [if_neg (by simp), List.nil_append]
      exact ih
omit hc hl in
theorem prev_len (n : Int) : ∀ d i, (U.prevFrom bl n d i).length ≤ d
  | 0, i => Nat.le_refl _
  | d + 1, i => by
    have ih := prev_len n d (i + 1)
    unfold U.prevFrom
    rw [List.length_append]
    split <;> simp <;> omega
/-- flow.Prev: new memory, or none. -/
theorem wf17 (n : Int) : Wf Tryd.prog H 57 [.agg [.sl ks, .sl bs, goI p, goI q, .sl (bl.map encB)], goI n] [] = some (if decide (n < 0) || decide (n ≥ bl.length) then (.sl [], [], []) else (.os 0 0 (U.prevAt bl n).length, [.arr 1 ((U.prevAt bl n).map encI)], [])) := by
  refine runK (t17 ks bs p q bl n (U.prevAt bl n) _) ?_
  rw [List.length_map]
  by_cases h0 : n < 0
  · rw [decide_eq_true h0]; exact rfl
  by_cases h1 : n ≥ bl.length
  · rw [decide_eq_false h0, decide_eq_true h1]; exact rfl
  rw [decide_eq_false h0, decide_eq_false h1]
  exact ⟨loop17_5 ks bs p q bl hc hl n (by omega) (by omega) bl.length 0 [] (by omega) (by simp), rfl⟩
omit hc hl in
theorem loop20_6 (k : Int) (i : Nat) (t : List Int) (ht : t.length ≤ 2) : ∀ (d j : Nat) (l : List XE), j + d = t.length → l.length ≤ 6000 + j →
    LoopTo Tryd.prog H (H 66) 0 (loopOf Tryd.prog 66 6) (mkS 30 [(1, .pt 0 0 0), (3, .os 1 0 l.length), (4, goI i), (9, goI k), (10, goI i), (15, .sl (t.map encI)), (16, goI t.length), (17, goI j)] [.box [.sl ks, .sl bs, goI p, goI q, .sl (bl.map encB)], .arr 2 (l.map encE)])
      (.exit 2, mkS 30 [(1, .pt 0 0 0), (3, .os 1 0 (l ++ U.edgeTo i (t.drop j)).length), (9, goI k), (10, goI i)] [.box [.sl ks, .sl bs, goI p, goI q, .sl (bl.map encB)], .arr 2 ((l ++ U.edgeTo i (t.drop j)).map encE)])
  | 0, j, l, hd, hll => by
    refine turnK (t20_6 ks bs p q bl k i t t.length j l _) ?_
    rw [decide_eq_false (by omega), List.drop_eq_nil_of_le (by omega), show U.edgeTo i [] = [] from rfl, List.append_nil]
    exact rfl
  | d + 1, j, l, hd, hll => by
    have hj : j < t.length := by omega
    have ih := loop20_6 k i t ht d (j + 1) (l ++ [⟨i, U.nt t j⟩]) (by omega) (by simp; omega)
    refine turnK (t20_6 ks bs p q bl k i t t.length j l _) ?_
    have ed : t.drop j = U.nt t j :: t.drop (j + 1) := drop_cons' t hj
    rw [decide_eq_true (by omega), wrapS hj (by omega), rowI hj, getI hj, ed, show U.edgeTo i (U.nt t j :: t.drop (j + 1)) = [⟨(i : Int), U.nt t j⟩] ++ U.edgeTo i (t.drop (j + 1)) from rfl]
    rw [List.append_assoc] at ih
    simp only [rdI, List.getD_cons_zero, int_goI]
    simp only [List.length_append, List.length_singleton, List.map_append, List.map_cons, List.map_nil] at ih ⊢
    exact ⟨⟨by omega, by trivial⟩, by trivial, ⟨by simp, by omega⟩, ih⟩
theorem loop20_3 : ∀ (d i : Nat) (l : List XE), i + d = bl.length → l.length ≤ 2 * i →
    LoopTo Tryd.prog H (H 66) 0 (loopOf Tryd.prog 66 3) (mkS 30 [(1, .pt 0 0 0), (3, .os 1 0 l.length), (9, goI bl.length), (10, goI i)] [.box [.sl ks, .sl bs, goI p, goI q, .sl (bl.map encB)], .arr 2 (l.map encE)])
      (.exit 0, mkS 30 [(3, .os 1 0 (l ++ U.edgesFrom bl d i).length)] [.dead, .arr 2 ((l ++ U.edgesFrom bl d i).map encE)])
  | 0, i, l, hd, hll => by
    refine turnK (t20_3 ks bs p q bl bl.length i l [] _) ?_
    rw [decide_eq_false (by omega), show U.edgesFrom bl 0 i = [] from rfl, List.append_nil]
    exact rfl
  | d + 1, i, l, hd, hll => by
    have hi : i < bl.length := by omega
    have hn := nextAt_len bl i
    have h1 := loop20_6 ks bs p q bl bl.length i (U.nextAt bl i) hn (U.nextAt bl i).length 0 l (by omega) (by omega)
    rw [List.drop_zero] at h1
    have hle : (U.edgeTo i (U.nextAt bl i)).length ≤ 2 := by unfold U.edgeTo; rw [List.length_map]; exact hn
    have ih := loop20_3 d (i + 1) (l ++ U.edgeTo i (U.nextAt bl i)) (by omega) (by rw [List.length_append]; omega)
    refine turnK (t20_3 ks bs p q bl bl.length i l (l ++ U.edgeTo i (U.nextAt bl i)) _) ?_
    rw [decide_eq_true (by omega), wrapS hi (by omega), nextR_map, List.length_map, show U.edgesFrom bl (d + 1) i = U.edgeTo i (U.nextAt bl i) ++ U.edgesFrom bl d (i + 1) from rfl, ← List.append_assoc]
    exact ⟨wf15 ks bs p q bl i hc, h1, ih⟩
theorem wf20 : Wf Tryd.prog H 66 [.agg [.sl ks, .sl bs, goI p, goI q, .sl (bl.map encB)]] [] = some (.os 0 0 (U.edges bl).length, [.arr 2 ((U.edges bl).map encE)], []) := by
  refine runK (t20 ks bs p q bl (U.edges bl) _) ⟨?_, rfl⟩
  rw [List.length_map]
  exact loop20_3 ks bs p q bl hc hl bl.length 0 [] (by omega) (by simp)
omit hc hl in
theorem loop21_7 (i : Nat) (t : List Int) (ht : t.length ≤ 2) : ∀ (d j : Nat) (l : List XE), j + d = t.length → l.length ≤ 6000 + j →
    LoopTo Tryd.prog H (H 34) 0 (loopOf Tryd.prog 34 7) (mkS 33 [(1, .pt 0 0 0), (3, .os 1 0 l.length), (4, goI i), (5, .sl (t.map encI)), (6, goI j)] [.box [.sl ks, .sl bs, goI p, goI q, .sl (bl.map encB)], .arr 2 (l.map encE)])
      (.exit 2, mkS 33 [(1, .pt 0 0 0), (3, .os 1 0 (l ++ U.edgeTo i (t.drop j)).length), (4, goI i)] [.box [.sl ks, .sl bs, goI p, goI q, .sl (bl.map encB)], .arr 2 ((l ++ U.edgeTo i (t.drop j)).map encE)])
  | 0, j, l, hd, hll => by
    refine turnK (t21_7 ks bs p q bl i t j l _) ?_
    rw [List.length_map, decide_eq_false (by omega), List.drop_eq_nil_of_le (by omega), show U.edgeTo i [] = [] from rfl, List.append_nil]
    exact rfl
  | d + 1, j, l, hd, hll => by
    have hj : j < t.length := by omega
    have ih := loop21_7 i t ht d (j + 1) (l ++ [⟨i, U.nt t j⟩]) (by omega) (by simp; omega)
    refine turnK (t21_7 ks bs p q bl i t j l _) ?_
    have ed : t.drop j = U.nt t j :: t.drop (j + 1) := drop_cons' t hj
    rw [List.length_map, decide_eq_true (by omega), wrapS hj (by omega), rowI hj, getI hj, ed, show U.edgeTo i (U.nt t j :: t.drop (j + 1)) = [⟨(i : Int), U.nt t j⟩] ++ U.edgeTo i (t.drop (j + 1)) from rfl]
    rw [List.append_assoc] at ih
    simp only [rdI, List.getD_cons_zero, int_goI]
    simp only [List.length_append, List.length_singleton, List.map_append, List.map_cons, List.map_nil] at ih ⊢
    exact ⟨⟨by omega, by trivial⟩, by trivial, ⟨by simp, by omega⟩, ih⟩
theorem loop21_3 : ∀ (d i : Nat) (l : List XE), i + d = bl.length → l.length ≤ 2 * i →
    LoopTo Tryd.prog H (H 34) 0 (loopOf Tryd.prog 34 3) (mkS 33 [(1, .pt 0 0 0), (3, .os 1 0 l.length), (4, goI i)] [.box [.sl ks, .sl bs, goI p, goI q, .sl (bl.map encB)], .arr 2 (l.map encE)])
      (.exit 0, mkS 33 [(3, .os 1 0 (l ++ U.edgesFrom bl d i).length)] [.dead, .arr 2 ((l ++ U.edgesFrom bl d i).map encE)])
  | 0, i, l, hd, hll => by
    refine turnK (t21_3 ks bs p q bl i l [] _) ?_
    rw [List.length_map, decide_eq_false (by omega), show U.edgesFrom bl 0 i = [] from rfl, List.append_nil]
    exact rfl
  | d + 1, i, l, hd, hll => by
    have hi : i < bl.length := by omega
    have hn := nextAt_len bl i
    have h1 := loop21_7 ks bs p q bl i (U.nextAt bl i) hn (U.nextAt bl i).length 0 l (by omega) (by omega)
    rw [List.drop_zero] at h1
    have hle : (U.edgeTo i (U.nextAt bl i)).length ≤ 2 := by unfold U.edgeTo; rw [List.length_map]; exact hn
    have ih := loop21_3 d (i + 1) (l ++ U.edgeTo i (U.nextAt bl i)) (by omega) (by rw [List.length_append]; omega)
    refine turnK (t21_3 ks bs p q bl i l (l ++ U.edgeTo i (U.nextAt bl i)) _) ?_
    rw [List.length_map, decide_eq_true (by omega), wrapS hi (by omega), nextR_map, show U.edgesFrom bl (d + 1) i = U.edgeTo i (U.nextAt bl i) ++ U.edgesFrom bl d (i + 1) from rfl, ← List.append_assoc]
    exact ⟨wf16 ks bs p q bl i hc, h1, ih⟩
theorem wf21 : Wf Tryd.prog H 34 [.agg [.sl ks, .sl bs, goI p, goI q, .sl (bl.map encB)]] [] = some (.os 0 0 (U.edges bl).length, [.arr 2 ((U.edges bl).map encE)], []) := by
  refine runK (t21 ks bs p q bl (U.edges bl) _) ⟨?_, rfl⟩
  exact loop21_3 ks bs p q bl hc hl bl.length 0 [] (by omega) (by simp)
omit hc hl in
theorem edges_len : ∀ d i, (U.edgesFrom bl d i).length ≤ 2 * d
  | 0, i => Nat.le_refl _
  | d + 1, i => by
    have ih := edges_len d (i + 1)
    have hn := nextAt_len bl i
    unfold U.edgesFrom U.edgeTo
    rw [List.length_append, List.length_map]
    omega
end
theorem loop19_4 (a : List XE) (hl : a.length < 1000000) : ∀ (d i : Nat), i + d = a.length →
    LoopTo Tryd.prog H (H 20) 0 (loopOf Tryd.prog 20 4) (mkS 26 [(0, .sl (a.map encE)), (1, .sl (a.map encE)), (5, goI i)]) (.exit 0, mkS 26 [])
  | 0, i, hd => by
    refine turnK (t19_4 a a i _) ?_
    rw [List.length_map, decide_eq_false (by omega)]
    exact rfl
  | d + 1, i, hd => by
    have hi : i < a.length := by omega
    have ih := loop19_4 a hl d (i + 1) (by omega)
    refine turnK (t19_4 a a i _) ?_
    rw [List.length_map, decide_eq_true (by omega), wrapS hi hl, rowE hi, getE hi]
    simp only [encE, rdI, List.getD_cons_zero, List.getD_cons_succ, int_goI, beq_self_eq_true]
    exact ⟨⟨by omega, by trivial⟩, ⟨by omega, by trivial⟩, ih⟩
/-- A list has the same edges as itself. -/
theorem wf19 (a : List XE) (hl : a.length < 1000000) : Wf Tryd.prog H 20 [.sl (a.map encE), .sl (a.map encE)] [] = some (goB true, [], []) := by
  refine runK (t19 a a true _) ?_
  rw [List.length_map, beq_self_eq_true]
  exact ⟨loop19_4 a hl a.length 0 (by omega), rfl⟩
end Go.Proofs.YtabdcfcnngnnoaaDoor.E
