/- Functions, by what the evaluator asks; the theorems t.. were printed by show.txt, a program of this session. -/
import Derived.Test.YtabdcfcnngnnoaaDoor05c
set_option linter.unusedVariables false
set_option linter.unusedSectionVars false
set_option linter.unusedSimpArgs false
set_option maxRecDepth 100000
namespace Go.Proofs.YtabdcfcnngnnoaaDoor.E
open Go
namespace U
def kindOk (f : XF) (i : Nat) : Bool :=
  within (nt f.kinds i) 0 2 && (!(decide ((i : Int) < f.params) && (nt f.kinds i == 2)) && (if (nt f.kinds i == 2) = true then (within (nt f.base i) 0 ((f.kinds.length : Int) - 1) && (nt f.kinds (nt f.base i).toNat == 1)) else (nt f.base i == -1)))
def kindsFrom (f : XF) (i : Nat) : Bool := allFrom (kindOk f) i f.kinds.length
def lastOk (l : List XI) (k : Nat) : Bool := last (ins l k).op == ((k : Int) == (l.length : Int) - 1)
def lastFrom (l : List XI) (k : Nat) : Bool := allFrom (lastOk l) k l.length
def blockOk (f : XF) (i : Nat) : Bool := within ((blk f.blocks i).code.length : Int) 1 40 && lastFrom (blk f.blocks i).code 0
def blocksFrom (f : XF) (i : Nat) : Bool := allFrom (blockOk f) i f.blocks.length
/-- May a function be? -/
def okFunc (f : XF) : Bool := !decide ((f.kinds.length : Int) > 48) && ((f.base.length : Int) == (f.kinds.length : Int)) && within f.params 0 (if (f.kinds.length : Int) < 4 then (f.kinds.length : Int) else 4) && within f.result 0 1 && within (f.blocks.length : Int) 1 40 && kindsFrom f 0 && blocksFrom f 0
end U
def F68 : CallT := fun f args sto => match f, args with
 | 59, [.v (.int _ n), .v (.int _ a), .v (.int _ b)] => .is (goB (U.within n a b), [], [])
 | 78, [.v (.int _ n)] => .is (goB (U.last n), [], [])
 | _, _ => .no
def L68 (b1 b2 : Bool) : Nat → St → LT := fun id st => match id with
 | 5 => .by b1 (.is (.exit 0) (mkS 135 [(1, .pt 0 0 0)] st.sto)) (.is .ret (mkS 135 [(2, goB false)] [.dead]))
 | 15 => .by b2 (.is (.exit 2) (mkS 135 [] [.dead])) (.is .ret (mkS 135 [(2, goB false)] [.dead]))
 | _ => .no
def L6821 (i : Nat) (b : Bool) : Nat → St → LT := fun id st => .by b (.is (.exit 4) (mkS 135 [(1, .pt 0 0 0), (5, goI i)] st.sto)) (.is .ret (mkS 135 [(2, goB false)] [.dead]))
set_option maxHeartbeats 4000000

theorem t68 (f : XF) (b1 : Bool) (b2 : Bool) (r : AV × List Row × List Nat) : (runT Tryd.prog H F68 (L68 b1 b2) false 60
 [AV.agg
 [AV.sl (List.map encI (XF.kinds f)), AV.sl (List.map encI (XF.base f)), goI (XF.params f), goI (XF.result f),
 AV.sl (List.map encB (XF.blocks f))]]
 [] fun q => q = r) = (TB (decide ((↑(List.length (List.map encI f.1)) : Int) > 48)) ((goB false, [], []) = r)
 (TB (!(↑(List.length (List.map encI f.2)) : Int) == (↑(List.length (List.map encI f.1)) : Int))
 ((goB false, [], []) = r)
 (Wf Tryd.prog H 59
 [goI f.3, goI 0,
 goI
 (if false = true then
 if 4 < (↑(List.length (List.map encI f.1)) : Int) then (↑(List.length (List.map encI f.1)) : Int) else 4
 else
 if (↑(List.length (List.map encI f.1)) : Int) < 4 then (↑(List.length (List.map encI f.1)) : Int)
 else 4)]
 [] =
 some
 (goB
 (U.within f.3 0
 (if false = true then
 if 4 < (↑(List.length (List.map encI f.1)) : Int) then (↑(List.length (List.map encI f.1)) : Int)
 else 4
 else
 if (↑(List.length (List.map encI f.1)) : Int) < 4 then (↑(List.length (List.map encI f.1)) : Int)
 else 4)),
 [], []) ∧
 TB
 (!U.within f.3 0
 (if false = true then
 if 4 < (↑(List.length (List.map encI f.1)) : Int) then (↑(List.length (List.map encI f.1)) : Int) else 4
 else
 if (↑(List.length (List.map encI f.1)) : Int) < 4 then (↑(List.length (List.map encI f.1)) : Int) else 4))
 ((goB false, [], []) = r)
 (Wf Tryd.prog H 59 [goI f.4, goI 0, goI 1] [] = some (goB (U.within f.4 0 1), [], []) ∧
 TB (!U.within f.4 0 1) ((goB false, [], []) = r)
 (Wf Tryd.prog H 59 [goI (↑(List.length (List.map encB f.5)) : Int), goI 1, goI 40] [] =
 some (goB (U.within (↑(List.length (List.map encB f.5)) : Int) 1 40), [], []) ∧
 TB (!U.within (↑(List.length (List.map encB f.5)) : Int) 1 40) ((goB false, [], []) = r)
 (TB b1
 (LoopTo Tryd.prog H (H 60) 0 (loopOf Tryd.prog 60 5)
 (mkS 135 [(1, AV.pt 0 0 0), (3, goI (↑(List.length (List.map encI f.1)) : Int)), (4, goI 0)]
 [Row.box
 [AV.sl (List.map encI f.1), AV.sl (List.map encI f.2), goI f.3, goI f.4,
 AV.sl (List.map encB f.5)]])
 (Ex.exit 0,
 mkS 135 [(1, AV.pt 0 0 0)]
 [Row.box
 [AV.sl (List.map encI f.1), AV.sl (List.map encI f.2), goI f.3, goI f.4,
 AV.sl (List.map encB f.5)]]) ∧
 TB b2
 (LoopTo Tryd.prog H (H 60) 0 (loopOf Tryd.prog 60 15)
 (mkS 135 [(1, AV.pt 0 0 0), (5, goI 0)]
 [Row.box
 [AV.sl (List.map encI f.1), AV.sl (List.map encI f.2), goI f.3, goI f.4,
 AV.sl (List.map encB f.5)]])
 (Ex.exit 2, mkS 135 [] [Row.dead]) ∧
 (goB true, [], []) = r)
 (LoopTo Tryd.prog H (H 60) 0 (loopOf Tryd.prog 60 15)
 (mkS 135 [(1, AV.pt 0 0 0), (5, goI 0)]
 [Row.box
 [AV.sl (List.map encI f.1), AV.sl (List.map encI f.2), goI f.3, goI f.4,
 AV.sl (List.map encB f.5)]])
 (Ex.ret, mkS 135 [(2, goB false)] [Row.dead]) ∧
 (goB false, [], []) = r))
 (LoopTo Tryd.prog H (H 60) 0 (loopOf Tryd.prog 60 5)
 (mkS 135 [(1, AV.pt 0 0 0), (3, goI (↑(List.length (List.map encI f.1)) : Int)), (4, goI 0)]
 [Row.box
 [AV.sl (List.map encI f.1), AV.sl (List.map encI f.2), goI f.3, goI f.4,
 AV.sl (List.map encB f.5)]])
 (Ex.ret, mkS 135 [(2, goB false)] [Row.dead]) ∧
 (goB false, [], []) = r))))))) := by kernel_rfl
theorem t68_5 (f : XF) (n : Int) (i : Nat) (r : Ex × St) : (turnT Tryd.prog H F68 L0 false (H 60) 0 (loopOf Tryd.prog 60 5)
 (mkS 135 [(1, AV.pt 0 0 0), (3, goI n), (4, goI (↑i : Int))]
 [Row.box
 [AV.sl (List.map encI (XF.kinds f)), AV.sl (List.map encI (XF.base f)), goI (XF.params f), goI (XF.result f),
 AV.sl (List.map encB (XF.blocks f))]])
 r) = (TB (decide ((↑i : Int) < n))
 ((0 ≤ (↑i : Int) ∧ (List.map encI f.1)[i]? = some [goI (rdI (rowAt (List.map encI f.1) i) 0)]) ∧
 Wf Tryd.prog H 59 [goI (rdI (rowAt (List.map encI f.1) i) 0), goI 0, goI 2] [] =
 some (goB (U.within (rdI (rowAt (List.map encI f.1) i) 0) 0 2), [], []) ∧
 TB (!U.within (rdI (rowAt (List.map encI f.1) i) 0) 0 2) ((Ex.ret, mkS 135 [(2, goB false)] [Row.dead]) = r)
 (TB (decide ((↑i : Int) < f.3))
 ((0 ≤ (↑i : Int) ∧ (List.map encI f.1)[i]? = some [goI (rdI (rowAt (List.map encI f.1) i) 0)]) ∧
 TB (rdI (rowAt (List.map encI f.1) i) 0 == 2) ((Ex.ret, mkS 135 [(2, goB false)] [Row.dead]) = r)
 ((0 ≤ (↑i : Int) ∧ (List.map encI f.1)[i]? = some [goI (rdI (rowAt (List.map encI f.1) i) 0)]) ∧
 TB (!rdI (rowAt (List.map encI f.1) i) 0 == 2)
 ((0 ≤ (↑i : Int) ∧ (List.map encI f.2)[i]? = some [goI (rdI (rowAt (List.map encI f.2) i) 0)]) ∧
 TB (!rdI (rowAt (List.map encI f.2) i) 0 == -1) ((Ex.ret, mkS 135 [(2, goB false)] [Row.dead]) = r)
 (LoopTo Tryd.prog H (H 60) 0 (loopOf Tryd.prog 60 5)
 (mkS 135 [(1, AV.pt 0 0 0), (3, goI n), (4, goI (IntKind.wrap IntKind.i64 ((↑i : Int) + 1)))]
 [Row.box
 [AV.sl (List.map encI f.1), AV.sl (List.map encI f.2), goI f.3, goI f.4,
 AV.sl (List.map encB f.5)]])
 r))
 ((0 ≤ (↑i : Int) ∧ (List.map encI f.2)[i]? = some [goI (rdI (rowAt (List.map encI f.2) i) 0)]) ∧
 Wf Tryd.prog H 59
 [goI (rdI (rowAt (List.map encI f.2) i) 0), goI 0, goI (IntKind.wrap IntKind.i64 (n - 1))]
 [] =
 some
 (goB (U.within (rdI (rowAt (List.map encI f.2) i) 0) 0 (IntKind.wrap IntKind.i64 (n - 1))),
 [], []) ∧
 TB (!U.within (rdI (rowAt (List.map encI f.2) i) 0) 0 (IntKind.wrap IntKind.i64 (n - 1)))
 ((Ex.ret, mkS 135 [(2, goB false)] [Row.dead]) = r)
 ((0 ≤ (↑i : Int) ∧ (List.map encI f.2)[i]? = some [goI (rdI (rowAt (List.map encI f.2) i) 0)]) ∧
 (0 ≤ rdI (rowAt (List.map encI f.2) i) 0 ∧
 (List.map encI f.1)[Int.toNat (rdI (rowAt (List.map encI f.2) i) 0)]? =
 some
 [goI
 (rdI (rowAt (List.map encI f.1) (Int.toNat (rdI (rowAt (List.map encI f.2) i) 0)))
 0)]) ∧
 TB
 (!rdI (rowAt (List.map encI f.1) (Int.toNat (rdI (rowAt (List.map encI f.2) i) 0))) 0 ==
 1)
 ((Ex.ret, mkS 135 [(2, goB false)] [Row.dead]) = r)
 (LoopTo Tryd.prog H (H 60) 0 (loopOf Tryd.prog 60 5)
 (mkS 135
 [(1, AV.pt 0 0 0), (3, goI n), (4, goI (IntKind.wrap IntKind.i64 ((↑i : Int) + 1)))]
 [Row.box
 [AV.sl (List.map encI f.1), AV.sl (List.map encI f.2), goI f.3, goI f.4,
 AV.sl (List.map encB f.5)]])
 r)))))
 ((0 ≤ (↑i : Int) ∧ (List.map encI f.1)[i]? = some [goI (rdI (rowAt (List.map encI f.1) i) 0)]) ∧
 TB (!rdI (rowAt (List.map encI f.1) i) 0 == 2)
 ((0 ≤ (↑i : Int) ∧ (List.map encI f.2)[i]? = some [goI (rdI (rowAt (List.map encI f.2) i) 0)]) ∧
 TB (!rdI (rowAt (List.map encI f.2) i) 0 == -1) ((Ex.ret, mkS 135 [(2, goB false)] [Row.dead]) = r)
 (LoopTo Tryd.prog H (H 60) 0 (loopOf Tryd.prog 60 5)
 (mkS 135 [(1, AV.pt 0 0 0), (3, goI n), (4, goI (IntKind.wrap IntKind.i64 ((↑i : Int) + 1)))]
 [Row.box
 [AV.sl (List.map encI f.1), AV.sl (List.map encI f.2), goI f.3, goI f.4,
 AV.sl (List.map encB f.5)]])
 r))
 ((0 ≤ (↑i : Int) ∧ (List.map encI f.2)[i]? = some [goI (rdI (rowAt (List.map encI f.2) i) 0)]) ∧
 Wf Tryd.prog H 59
 [goI (rdI (rowAt (List.map encI f.2) i) 0), goI 0, goI (IntKind.wrap IntKind.i64 (n - 1))] [] =
 some
 (goB (U.within (rdI (rowAt (List.map encI f.2) i) 0) 0 (IntKind.wrap IntKind.i64 (n - 1))), [],
 []) ∧
 TB (!U.within (rdI (rowAt (List.map encI f.2) i) 0) 0 (IntKind.wrap IntKind.i64 (n - 1)))
 ((Ex.ret, mkS 135 [(2, goB false)] [Row.dead]) = r)
 ((0 ≤ (↑i : Int) ∧ (List.map encI f.2)[i]? = some [goI (rdI (rowAt (List.map encI f.2) i) 0)]) ∧
 (0 ≤ rdI (rowAt (List.map encI f.2) i) 0 ∧
 (List.map encI f.1)[Int.toNat (rdI (rowAt (List.map encI f.2) i) 0)]? =
 some
 [goI
 (rdI (rowAt (List.map encI f.1) (Int.toNat (rdI (rowAt (List.map encI f.2) i) 0)))
 0)]) ∧
 TB (!rdI (rowAt (List.map encI f.1) (Int.toNat (rdI (rowAt (List.map encI f.2) i) 0))) 0 == 1)
 ((Ex.ret, mkS 135 [(2, goB false)] [Row.dead]) = r)
 (LoopTo Tryd.prog H (H 60) 0 (loopOf Tryd.prog 60 5)
 (mkS 135
 [(1, AV.pt 0 0 0), (3, goI n), (4, goI (IntKind.wrap IntKind.i64 ((↑i : Int) + 1)))]
 [Row.box
 [AV.sl (List.map encI f.1), AV.sl (List.map encI f.2), goI f.3, goI f.4,
 AV.sl (List.map encB f.5)]])
 r))))))
 ((Ex.exit 0,
 mkS 135 [(1, AV.pt 0 0 0)]
 [Row.box [AV.sl (List.map encI f.1), AV.sl (List.map encI f.2), goI f.3, goI f.4, AV.sl (List.map encB f.5)]]) =
 r)) := by kernel_rfl
theorem t68_15 (f : XF) (i : Nat) (b : Bool) (r : Ex × St) : (turnT Tryd.prog H F68 (L6821 i b) false (H 60) 0 (loopOf Tryd.prog 60 15)
 (mkS 135 [(1, AV.pt 0 0 0), (5, goI (↑i : Int))]
 [Row.box
 [AV.sl (List.map encI (XF.kinds f)), AV.sl (List.map encI (XF.base f)), goI (XF.params f), goI (XF.result f),
 AV.sl (List.map encB (XF.blocks f))]])
 r) = (TB (decide ((↑i : Int) < (↑(List.length (List.map encB f.5)) : Int)))
 ((0 ≤ (↑i : Int) ∧ (List.map encB f.5)[i]? = some [AV.sl (rdL (rowAt (List.map encB f.5) i) 0)]) ∧
 Wf Tryd.prog H 59 [goI (↑(List.length (rdL (rowAt (List.map encB f.5) i) 0)) : Int), goI 1, goI 40] [] =
 some (goB (U.within (↑(List.length (rdL (rowAt (List.map encB f.5) i) 0)) : Int) 1 40), [], []) ∧
 TB (!U.within (↑(List.length (rdL (rowAt (List.map encB f.5) i) 0)) : Int) 1 40)
 ((Ex.ret, mkS 135 [(2, goB false)] [Row.dead]) = r)
 (TB b
 (LoopTo Tryd.prog H (H 60) 0 (loopOf Tryd.prog 60 21)
 (mkS 135
 [(1, AV.pt 0 0 0), (5, goI (↑i : Int)), (6, AV.sl (rdL (rowAt (List.map encB f.5) i) 0)), (7, goI 0)]
 [Row.box
 [AV.sl (List.map encI f.1), AV.sl (List.map encI f.2), goI f.3, goI f.4,
 AV.sl (List.map encB f.5)]])
 (Ex.exit 4,
 mkS 135 [(1, AV.pt 0 0 0), (5, goI (↑i : Int))]
 [Row.box
 [AV.sl (List.map encI f.1), AV.sl (List.map encI f.2), goI f.3, goI f.4,
 AV.sl (List.map encB f.5)]]) ∧
 LoopTo Tryd.prog H (H 60) 0 (loopOf Tryd.prog 60 15)
 (mkS 135 [(1, AV.pt 0 0 0), (5, goI (IntKind.wrap IntKind.i64 ((↑i : Int) + 1)))]
 [Row.box
 [AV.sl (List.map encI f.1), AV.sl (List.map encI f.2), goI f.3, goI f.4,
 AV.sl (List.map encB f.5)]])
 r)
 (LoopTo Tryd.prog H (H 60) 0 (loopOf Tryd.prog 60 21)
 (mkS 135
 [(1, AV.pt 0 0 0), (5, goI (↑i : Int)), (6, AV.sl (rdL (rowAt (List.map encB f.5) i) 0)), (7, goI 0)]
 [Row.box
 [AV.sl (List.map encI f.1), AV.sl (List.map encI f.2), goI f.3, goI f.4,
 AV.sl (List.map encB f.5)]])
 (Ex.ret, mkS 135 [(2, goB false)] [Row.dead]) ∧
 (Ex.ret, mkS 135 [(2, goB false)] [Row.dead]) = r)))
 ((Ex.exit 2, mkS 135 [] [Row.dead]) = r)) := by kernel_rfl
theorem t68_21 (f : XF) (l : List XI) (i : Nat) (k : Nat) (r : Ex × St) : (turnT Tryd.prog H F68 L0 false (H 60) 0 (loopOf Tryd.prog 60 21)
 (mkS 135 [(1, AV.pt 0 0 0), (5, goI (↑i : Int)), (6, AV.sl (List.map encIn l)), (7, goI (↑k : Int))]
 [Row.box
 [AV.sl (List.map encI (XF.kinds f)), AV.sl (List.map encI (XF.base f)), goI (XF.params f), goI (XF.result f),
 AV.sl (List.map encB (XF.blocks f))]])
 r) = (TB (decide ((↑k : Int) < (↑(List.length (List.map encIn l)) : Int)))
 ((0 ≤ (↑k : Int) ∧
 (List.map encIn l)[k]? =
 some
 [goI (rdI (rowAt (List.map encIn l) k) 0), goI (rdI (rowAt (List.map encIn l) k) 1),
 goI (rdI (rowAt (List.map encIn l) k) 2), goI (rdI (rowAt (List.map encIn l) k) 3),
 goI (rdI (rowAt (List.map encIn l) k) 4), goI (rdI (rowAt (List.map encIn l) k) 5),
 AV.sl (rdL (rowAt (List.map encIn l) k) 6)]) ∧
 Wf Tryd.prog H 78 [goI (rdI (rowAt (List.map encIn l) k) 0)] [] =
 some (goB (U.last (rdI (rowAt (List.map encIn l) k) 0)), [], []) ∧
 TB
 (!U.last (rdI (rowAt (List.map encIn l) k) 0) ==
 ((↑k : Int) == IntKind.wrap IntKind.i64 ((↑(List.length (List.map encIn l)) : Int) - 1)))
 ((Ex.ret, mkS 135 [(2, goB false)] [Row.dead]) = r)
 (LoopTo Tryd.prog H (H 60) 0 (loopOf Tryd.prog 60 21)
 (mkS 135
 [(1, AV.pt 0 0 0), (5, goI (↑i : Int)), (6, AV.sl (List.map encIn l)),
 (7, goI (IntKind.wrap IntKind.i64 ((↑k : Int) + 1)))]
 [Row.box
 [AV.sl (List.map encI f.1), AV.sl (List.map encI f.2), goI f.3, goI f.4, AV.sl (List.map encB f.5)]])
 r))
 ((Ex.exit 4,
 mkS 135 [(1, AV.pt 0 0 0), (5, goI (↑i : Int))]
 [Row.box [AV.sl (List.map encI f.1), AV.sl (List.map encI f.2), goI f.3, goI f.4, AV.sl (List.map encB f.5)]]) =
 r)) := by kernel_rfl
theorem kindsFrom_step (f : XF) {i : Nat} (h : i < f.kinds.length) : U.kindsFrom f i = (U.kindOk f i && U.kindsFrom f (i + 1)) := allFrom_step _ h
theorem kindsFrom_end (f : XF) {i : Nat} (h : f.kinds.length ≤ i) : U.kindsFrom f i = true := allFrom_end _ h
theorem lastFrom_step (l : List XI) {i : Nat} (h : i < l.length) : U.lastFrom l i = (U.lastOk l i && U.lastFrom l (i + 1)) := allFrom_step _ h
theorem lastFrom_end (l : List XI) {i : Nat} (h : l.length ≤ i) : U.lastFrom l i = true := allFrom_end _ h
theorem blocksFrom_step (f : XF) {i : Nat} (h : i < f.blocks.length) : U.blocksFrom f i = (U.blockOk f i && U.blocksFrom f (i + 1)) := allFrom_step _ h
theorem blocksFrom_end (f : XF) {i : Nat} (h : f.blocks.length ≤ i) : U.blocksFrom f i = true := allFrom_end _ h
def bx68 (f : XF) : List Row := [.box [.sl (f.kinds.map encI), .sl (f.base.map encI), goI f.params, goI f.result, .sl (f.blocks.map encB)]]
theorem loop68_5 (f : XF) (hn : f.kinds.length ≤ 48) (hb : f.base.length = f.kinds.length) : ∀ (d i : Nat), i + d = f.kinds.length →
    LoopTo Tryd.prog H (H 60) 0 (loopOf Tryd.prog 60 5) (mkS 135 [(1, .pt 0 0 0), (3, goI f.kinds.length), (4, goI i)] (bx68 f)) (if U.kindsFrom f i then (.exit 0, mkS 135 [(1, .pt 0 0 0)] (bx68 f)) else (.ret, mkS 135 [(2, goB false)] [.dead]))
  | 0, i, hd => by
    refine turnK (t68_5 f f.kinds.length i _) ?_
    rw [decide_eq_false (by omega), kindsFrom_end f (by omega)]
    exact rfl
  | d + 1, i, hd => by
    have hi : i < f.kinds.length := by omega
    have hib : i < f.base.length := by omega
    have ih := loop68_5 f hn hb d (i + 1) (by omega)
    refine turnK (t68_5 f f.kinds.length i _) ?_
    have w1 : IntKind.i64.wrap ((f.kinds.length : Int) - 1) = (f.kinds.length : Int) - 1 := by rw [wrap64] <;> omega
    rw [decide_eq_true (by omega), wrapS hi (by omega), w1, rowI hi, getI hi, rowI hib, getI hib, kindsFrom_step f hi]
    unfold U.kindOk
    simp only [rdI, List.getD_cons_zero, int_goI]
    refine ⟨⟨by omega, by trivial⟩, wf67 _ _ _, ?_⟩
    cases hw : U.within (U.nt f.kinds i) 0 2 with
    | false => exact rfl
    | true =>
      cases hp : decide ((i : Int) < f.params) with
      | true =>
        refine ⟨⟨by omega, by trivial⟩, ?_⟩
        cases hk : (U.nt f.kinds i == 2) with
        | true => exact rfl
        | false =>
          refine ⟨⟨by omega, by trivial⟩, ⟨by omega, by trivial⟩, ?_⟩
          cases hm : (U.nt f.base i == -1) with
          | false => exact rfl
          | true => exact ih
      | false =>
        refine ⟨⟨by omega, by trivial⟩, ?_⟩
        cases hk : (U.nt f.kinds i == 2) with
        | true =>
          refine ⟨⟨by omega, by trivial⟩, wf67 _ _ _, ?_⟩
          cases hq : U.within (U.nt f.base i) 0 ((f.kinds.length : Int) - 1) with
          | false => exact rfl
          | true =>
            obtain ⟨b1, b2⟩ := (within_iff _ _ _).1 hq
            have hj : (U.nt f.base i).toNat < f.kinds.length := by omega
            rw [rowI hj, getI hj]
            refine ⟨⟨by omega, by trivial⟩, ⟨by omega, by trivial⟩, ?_⟩
            simp only [List.getD_cons_zero, int_goI]
            cases hz : (U.nt f.kinds (U.nt f.base i).toNat == 1) with
            | false => exact rfl
            | true => exact ih
        | false =>
          refine ⟨⟨by omega, by trivial⟩, ?_⟩
          cases hm : (U.nt f.base i == -1) with
          | false => exact rfl
          | true => exact ih
theorem loop68_21 (f : XF) (l : List XI) (i : Nat) (hl : l.length ≤ 40) : ∀ (d k : Nat), k + d = l.length →
    LoopTo Tryd.prog H (H 60) 0 (loopOf Tryd.prog 60 21) (mkS 135 [(1, .pt 0 0 0), (5, goI i), (6, .sl (l.map encIn)), (7, goI k)] (bx68 f)) (if U.lastFrom l k then (.exit 4, mkS 135 [(1, .pt 0 0 0), (5, goI i)] (bx68 f)) else (.ret, mkS 135 [(2, goB false)] [.dead]))
  | 0, k, hd => by
    refine turnK (t68_21 f l i k _) ?_
    rw [List.length_map, decide_eq_false (by omega), lastFrom_end l (by omega)]
    exact rfl
  | d + 1, k, hd => by
    have hk : k < l.length := by omega
    have ih := loop68_21 f l i hl d (k + 1) (by omega)
    refine turnK (t68_21 f l i k _) ?_
    have w1 : IntKind.i64.wrap ((l.length : Int) - 1) = (l.length : Int) - 1 := by rw [wrap64] <;> omega
    rw [List.length_map, decide_eq_true (by omega), wrapS hk (by omega), w1, rowIn hk, getIn hk, lastFrom_step l hk]
    unfold U.lastOk
    simp only [encIn, rdI, rdL, slOf, List.getD_cons_zero, List.getD_cons_succ, int_goI]
    refine ⟨⟨by omega, by trivial⟩, wf89 _, ?_⟩
    cases (U.last (U.ins l k).op == ((k : Int) == (l.length : Int) - 1)) with
    | false => exact rfl
    | true => exact ih
theorem loop68_15 (f : XF) (hn : f.blocks.length ≤ 40) : ∀ (d i : Nat), i + d = f.blocks.length →
    LoopTo Tryd.prog H (H 60) 0 (loopOf Tryd.prog 60 15) (mkS 135 [(1, .pt 0 0 0), (5, goI i)] (bx68 f)) (if U.blocksFrom f i then (.exit 2, mkS 135 [] [.dead]) else (.ret, mkS 135 [(2, goB false)] [.dead]))
  | 0, i, hd => by
    refine turnK (t68_15 f i false _) ?_
    rw [List.length_map, decide_eq_false (by omega), blocksFrom_end f (by omega)]
    exact rfl
  | d + 1, i, hd => by
    have hi : i < f.blocks.length := by omega
    have ih := loop68_15 f hn d (i + 1) (by omega)
    refine turnK (t68_15 f i (U.lastFrom (U.blk f.blocks i).code 0) _) ?_
    rw [List.length_map, decide_eq_true (by omega), wrapS hi (by omega), rowB hi, getB hi, blocksFrom_step f hi]
    unfold U.blockOk
    simp only [encB, rdL, slOf, List.getD_cons_zero, List.length_map]
    refine ⟨⟨by omega, by trivial⟩, wf67 _ _ _, ?_⟩
    cases hw : U.within ((U.blk f.blocks i).code.length : Int) 1 40 with
    | false => exact rfl
    | true =>
      obtain ⟨b1, b2⟩ := (within_iff _ _ _).1 hw
      have h := loop68_21 f (U.blk f.blocks i).code i (by omega) (U.blk f.blocks i).code.length 0 (by omega)
      cases hb : U.lastFrom (U.blk f.blocks i).code 0 with
      | true => rw [hb] at h; exact ⟨h, ih⟩
      | false => rw [hb] at h; exact ⟨h, rfl⟩
theorem wf68 (f : XF) : Wf Tryd.prog H 60 [.agg (encF f)] [] = some (goB (U.okFunc f), [], []) := by
  refine runK (t68 f (U.kindsFrom f 0) (U.blocksFrom f 0) _) ?_
  simp only [List.length_map, Bool.false_eq_true, if_false]
  unfold U.okFunc
  by_cases h1 : (f.kinds.length : Int) > 48
  · rw [decide_eq_true h1]; exact rfl
  rw [decide_eq_false h1]
  cases h2 : ((f.base.length : Int) == (f.kinds.length : Int)) with
  | false => exact rfl
  | true =>
    have h2' := beq_iff_eq.1 h2
    refine ⟨wf67 _ _ _, ?_⟩
    cases h3 : U.within f.params 0 (if (f.kinds.length : Int) < 4 then (f.kinds.length : Int) else 4) with
    | false => exact rfl
    | true =>
      refine ⟨wf67 _ _ _, ?_⟩
      cases h4 : U.within f.result 0 1 with
      | false => exact rfl
      | true =>
        refine ⟨wf67 _ _ _, ?_⟩
        cases h5 : U.within (f.blocks.length : Int) 1 40 with
        | false => exact rfl
        | true =>
          obtain ⟨b1, b2⟩ := (within_iff _ _ _).1 h5
          have g1 := loop68_5 f (by omega) (by omega) f.kinds.length 0 (by omega)
          have g2 := loop68_15 f (by omega) f.blocks.length 0 (by omega)
          cases h6 : U.kindsFrom f 0 with
          | false => rw [h6] at g1; exact ⟨g1, rfl⟩
          | true =>
            rw [h6] at g1
            cases h7 : U.blocksFrom f 0 with
            | false => rw [h7] at g2; exact ⟨g1, g2, rfl⟩
            | true => rw [h7] at g2; exact ⟨g1, g2, rfl⟩
end Go.Proofs.YtabdcfcnngnnoaaDoor.E
