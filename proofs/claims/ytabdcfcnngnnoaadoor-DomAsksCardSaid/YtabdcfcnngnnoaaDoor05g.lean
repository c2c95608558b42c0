/- Functions, by what the evaluator asks; the theorems t.. were printed by show.txt, a program of this session. -/
import Derived.Test.YtabdcfcnngnnoaaDoor05e
import Derived.Test.YtabdcfcnngnnoaaDoor05f
set_option linter.unusedVariables false
set_option linter.unusedSectionVars false
set_option linter.unusedSimpArgs false
set_option maxRecDepth 100000
namespace Go.Proofs.YtabdcfcnngnnoaaDoor.E
open Go
namespace U
def insFrom (P : List XF) (i : Nat) (l : List XI) (j : Nat) : Bool := allFrom (fun j => okIns P i (ins l j)) j l.length
def insBlocks (P : List XF) (i k : Nat) : Bool := allFrom (fun k => insFrom P i (blk (fun_ P i).blocks k).code 0) k (fun_ P i).blocks.length
def okFrom (P : List XF) (i : Nat) : Bool := allFrom (fun i => okFunc (fun_ P i) && insBlocks P i 0) i P.length
/-- May a program be? -/
def okProg (P : List XF) : Bool := within (P.length : Int) 1 8 && ((fun_ P 0).params == 0) && ((fun_ P 0).result == 0) && okFrom P 0
end U
def F44 (b c : Bool) : CallT := fun f args sto => match f, args with
 | 59, [.v (.int _ n), .v (.int _ a), .v (.int _ b)] => .is (goB (U.within n a b), [], [])
 | 60, _ => .is (goB b, [], [])
 | 61, _ => .is (goB c, [], [])
 | _, _ => .no
def L44 (b : Bool) : Nat → St → LT := fun id st => .by b (.is (.exit 0) (mkS 74 [] [.dead, .dead])) (.is .ret (mkS 74 [(2, goI 5)] [.dead, .dead]))
def L4410 (i : Nat) (b : Bool) : Nat → St → LT := fun id st => .by b (.is (.exit 2) (mkS 74 [(1, .pt 0 0 0), (3, goI i)] st.sto)) (.is .ret (mkS 74 [(2, goI 5)] [.dead, .dead]))
def L4413 (i k : Nat) (b : Bool) : Nat → St → LT := fun id st => .by b (.is (.exit 4) (mkS 74 [(1, .pt 0 0 0), (3, goI i), (4, .pt 1 0 0), (5, goI k)] st.sto)) (.is .ret (mkS 74 [(2, goI 5)] [.dead, .dead]))
def F13 (g : Bool) (n : Int) : CallT := fun f args sto => match f, args with
 | 36, _ => .is (goB g, [], [])
 | 37, _ => .is (goI n, [], [])
 | _, _ => .no

theorem t44 (a : List XF) (b : Bool) (r : AV × List Row × List Nat) : (runT Tryd.prog H (F44 false false) (L44 b) false 37 [AV.agg [AV.sl (List.map encF a)]] [] fun q => q = r) = (Wf Tryd.prog H 59 [goI (↑(List.length (List.map encF a)) : Int), goI 1, goI 8] [] =
 some (goB (U.within (↑(List.length (List.map encF a)) : Int) 1 8), [], []) ∧
 TB (!U.within (↑(List.length (List.map encF a)) : Int) 1 8) ((goI 5, [], []) = r)
 ((iz 0 ≤ 0 ∧
 (List.map encF a)[0]? =
 some
 [AV.sl (rdL (rowAt (List.map encF a) 0) 0), AV.sl (rdL (rowAt (List.map encF a) 0) 1),
 goI (rdI (rowAt (List.map encF a) 0) 2), goI (rdI (rowAt (List.map encF a) 0) 3),
 AV.sl (rdL (rowAt (List.map encF a) 0) 4)]) ∧
 TB (!rdI (rowAt (List.map encF a) 0) 2 == 0) ((goI 5, [], []) = r)
 ((iz 0 ≤ 0 ∧
 (List.map encF a)[0]? =
 some
 [AV.sl (rdL (rowAt (List.map encF a) 0) 0), AV.sl (rdL (rowAt (List.map encF a) 0) 1),
 goI (rdI (rowAt (List.map encF a) 0) 2), goI (rdI (rowAt (List.map encF a) 0) 3),
 AV.sl (rdL (rowAt (List.map encF a) 0) 4)]) ∧
 TB (!rdI (rowAt (List.map encF a) 0) 3 == 0) ((goI 5, [], []) = r)
 (TB b
 (LoopTo Tryd.prog H (H 37) 0 (loopOf Tryd.prog 37 4)
 (mkS 74 [(1, AV.pt 0 0 0), (3, goI 0)] [Row.box [AV.sl (List.map encF a)], Row.dead])
 (Ex.exit 0, mkS 74 [] [Row.dead, Row.dead]) ∧
 (goI 0, [], []) = r)
 (LoopTo Tryd.prog H (H 37) 0 (loopOf Tryd.prog 37 4)
 (mkS 74 [(1, AV.pt 0 0 0), (3, goI 0)] [Row.box [AV.sl (List.map encF a)], Row.dead])
 (Ex.ret, mkS 74 [(2, goI 5)] [Row.dead, Row.dead]) ∧
 (goI 5, [], []) = r))))) := by kernel_rfl
theorem t44_4 (a : List XF) (i : Nat) (b : Bool) (c : Bool) (r : Ex × St) : (turnT Tryd.prog H (F44 b false) (L4410 i c) false (H 37) 0 (loopOf Tryd.prog 37 4)
 (mkS 74 [(1, AV.pt 0 0 0), (3, goI (↑i : Int))] [Row.box [AV.sl (List.map encF a)], Row.dead]) r) = (TB (decide ((↑i : Int) < (↑(List.length (List.map encF a)) : Int)))
 ((0 ≤ (↑i : Int) ∧
 (List.map encF a)[i]? =
 some
 [AV.sl (rdL (rowAt (List.map encF a) i) 0), AV.sl (rdL (rowAt (List.map encF a) i) 1),
 goI (rdI (rowAt (List.map encF a) i) 2), goI (rdI (rowAt (List.map encF a) i) 3),
 AV.sl (rdL (rowAt (List.map encF a) i) 4)]) ∧
 Wf Tryd.prog H 60
 [AV.agg
 [AV.sl (rdL (rowAt (List.map encF a) i) 0), AV.sl (rdL (rowAt (List.map encF a) i) 1),
 goI (rdI (rowAt (List.map encF a) i) 2), goI (rdI (rowAt (List.map encF a) i) 3),
 AV.sl (rdL (rowAt (List.map encF a) i) 4)]]
 [] =
 some (goB b, [], []) ∧
 TB (!b) ((Ex.ret, mkS 74 [(2, goI 5)] [Row.dead, Row.dead]) = r)
 (TB c
 (LoopTo Tryd.prog H (H 37) 0 (loopOf Tryd.prog 37 10)
 (mkS 74 [(1, AV.pt 0 0 0), (3, goI (↑i : Int)), (4, AV.pt 1 0 0), (5, goI 0)]
 [Row.box [AV.sl (List.map encF a)],
 Row.box
 [AV.sl (rdL (rowAt (List.map encF a) i) 0), AV.sl (rdL (rowAt (List.map encF a) i) 1),
 goI (rdI (rowAt (List.map encF a) i) 2), goI (rdI (rowAt (List.map encF a) i) 3),
 AV.sl (rdL (rowAt (List.map encF a) i) 4)]])
 (Ex.exit 2,
 mkS 74 [(1, AV.pt 0 0 0), (3, goI (↑i : Int))]
 [Row.box [AV.sl (List.map encF a)],
 Row.box
 [AV.sl (rdL (rowAt (List.map encF a) i) 0), AV.sl (rdL (rowAt (List.map encF a) i) 1),
 goI (rdI (rowAt (List.map encF a) i) 2), goI (rdI (rowAt (List.map encF a) i) 3),
 AV.sl (rdL (rowAt (List.map encF a) i) 4)]]) ∧
 LoopTo Tryd.prog H (H 37) 0 (loopOf Tryd.prog 37 4)
 (mkS 74 [(1, AV.pt 0 0 0), (3, goI (IntKind.wrap IntKind.i64 ((↑i : Int) + 1)))]
 [Row.box [AV.sl (List.map encF a)], Row.dead])
 r)
 (LoopTo Tryd.prog H (H 37) 0 (loopOf Tryd.prog 37 10)
 (mkS 74 [(1, AV.pt 0 0 0), (3, goI (↑i : Int)), (4, AV.pt 1 0 0), (5, goI 0)]
 [Row.box [AV.sl (List.map encF a)],
 Row.box
 [AV.sl (rdL (rowAt (List.map encF a) i) 0), AV.sl (rdL (rowAt (List.map encF a) i) 1),
 goI (rdI (rowAt (List.map encF a) i) 2), goI (rdI (rowAt (List.map encF a) i) 3),
 AV.sl (rdL (rowAt (List.map encF a) i) 4)]])
 (Ex.ret, mkS 74 [(2, goI 5)] [Row.dead, Row.dead]) ∧
 (Ex.ret, mkS 74 [(2, goI 5)] [Row.dead, Row.dead]) = r)))
 ((Ex.exit 0, mkS 74 [] [Row.dead, Row.dead]) = r)) := by kernel_rfl
theorem t44_10 (a : List XF) (ks : List (List AV)) (bs : List (List AV)) (p : Int) (q : Int) (bl : List XB) (i : Nat) (k : Nat) (c : Bool) (r : Ex × St) : (turnT Tryd.prog H (F44 false false) (L4413 i k c) false (H 37) 0 (loopOf Tryd.prog 37 10)
 (mkS 74 [(1, AV.pt 0 0 0), (3, goI (↑i : Int)), (4, AV.pt 1 0 0), (5, goI (↑k : Int))]
 [Row.box [AV.sl (List.map encF a)], Row.box [AV.sl ks, AV.sl bs, goI p, goI q, AV.sl (List.map encB bl)]])
 r) = (TB (decide ((↑k : Int) < (↑(List.length (List.map encB bl)) : Int)))
 (TB c
 (LoopTo Tryd.prog H (H 37) 0 (loopOf Tryd.prog 37 13)
 (mkS 74 [(1, AV.pt 0 0 0), (3, goI (↑i : Int)), (4, AV.pt 1 0 0), (5, goI (↑k : Int)), (6, goI 0)]
 [Row.box [AV.sl (List.map encF a)], Row.box [AV.sl ks, AV.sl bs, goI p, goI q, AV.sl (List.map encB bl)]])
 (Ex.exit 4,
 mkS 74 [(1, AV.pt 0 0 0), (3, goI (↑i : Int)), (4, AV.pt 1 0 0), (5, goI (↑k : Int))]
 [Row.box [AV.sl (List.map encF a)], Row.box [AV.sl ks, AV.sl bs, goI p, goI q, AV.sl (List.map encB bl)]]) ∧
 LoopTo Tryd.prog H (H 37) 0 (loopOf Tryd.prog 37 10)
 (mkS 74
 [(1, AV.pt 0 0 0), (3, goI (↑i : Int)), (4, AV.pt 1 0 0),
 (5, goI (IntKind.wrap IntKind.i64 ((↑k : Int) + 1)))]
 [Row.box [AV.sl (List.map encF a)], Row.box [AV.sl ks, AV.sl bs, goI p, goI q, AV.sl (List.map encB bl)]])
 r)
 (LoopTo Tryd.prog H (H 37) 0 (loopOf Tryd.prog 37 13)
 (mkS 74 [(1, AV.pt 0 0 0), (3, goI (↑i : Int)), (4, AV.pt 1 0 0), (5, goI (↑k : Int)), (6, goI 0)]
 [Row.box [AV.sl (List.map encF a)], Row.box [AV.sl ks, AV.sl bs, goI p, goI q, AV.sl (List.map encB bl)]])
 (Ex.ret, mkS 74 [(2, goI 5)] [Row.dead, Row.dead]) ∧
 (Ex.ret, mkS 74 [(2, goI 5)] [Row.dead, Row.dead]) = r))
 ((Ex.exit 2,
 mkS 74 [(1, AV.pt 0 0 0), (3, goI (↑i : Int))]
 [Row.box [AV.sl (List.map encF a)], Row.box [AV.sl ks, AV.sl bs, goI p, goI q, AV.sl (List.map encB bl)]]) =
 r)) := by kernel_rfl
theorem t44_13 (a : List XF) (ks : List (List AV)) (bs : List (List AV)) (p : Int) (q : Int) (bl : List XB) (i : Nat) (k : Nat) (j : Nat) (c : Bool) (r : Ex × St) : (turnT Tryd.prog H (F44 false c) L0 false (H 37) 0 (loopOf Tryd.prog 37 13)
 (mkS 74 [(1, AV.pt 0 0 0), (3, goI (↑i : Int)), (4, AV.pt 1 0 0), (5, goI (↑k : Int)), (6, goI (↑j : Int))]
 [Row.box [AV.sl (List.map encF a)], Row.box [AV.sl ks, AV.sl bs, goI p, goI q, AV.sl (List.map encB bl)]])
 r) = ((0 ≤ (↑k : Int) ∧ (List.map encB bl)[k]? = some [AV.sl (rdL (rowAt (List.map encB bl) k) 0)]) ∧
 TB (decide ((↑j : Int) < (↑(List.length (rdL (rowAt (List.map encB bl) k) 0)) : Int)))
 ((0 ≤ (↑k : Int) ∧ (List.map encB bl)[k]? = some [AV.sl (rdL (rowAt (List.map encB bl) k) 0)]) ∧
 (0 ≤ (↑j : Int) ∧
 (rdL (rowAt (List.map encB bl) k) 0)[j]? =
 some
 [goI (rdI (rowAt (rdL (rowAt (List.map encB bl) k) 0) j) 0),
 goI (rdI (rowAt (rdL (rowAt (List.map encB bl) k) 0) j) 1),
 goI (rdI (rowAt (rdL (rowAt (List.map encB bl) k) 0) j) 2),
 goI (rdI (rowAt (rdL (rowAt (List.map encB bl) k) 0) j) 3),
 goI (rdI (rowAt (rdL (rowAt (List.map encB bl) k) 0) j) 4),
 goI (rdI (rowAt (rdL (rowAt (List.map encB bl) k) 0) j) 5),
 AV.sl (rdL (rowAt (rdL (rowAt (List.map encB bl) k) 0) j) 6)]) ∧
 Wf Tryd.prog H 61
 [AV.agg [AV.sl (List.map encF a)], goI (↑i : Int),
 AV.agg
 [goI (rdI (rowAt (rdL (rowAt (List.map encB bl) k) 0) j) 0),
 goI (rdI (rowAt (rdL (rowAt (List.map encB bl) k) 0) j) 1),
 goI (rdI (rowAt (rdL (rowAt (List.map encB bl) k) 0) j) 2),
 goI (rdI (rowAt (rdL (rowAt (List.map encB bl) k) 0) j) 3),
 goI (rdI (rowAt (rdL (rowAt (List.map encB bl) k) 0) j) 4),
 goI (rdI (rowAt (rdL (rowAt (List.map encB bl) k) 0) j) 5),
 AV.sl (rdL (rowAt (rdL (rowAt (List.map encB bl) k) 0) j) 6)]]
 [] =
 some (goB c, [], []) ∧
 TB (!c) ((Ex.ret, mkS 74 [(2, goI 5)] [Row.dead, Row.dead]) = r)
 (LoopTo Tryd.prog H (H 37) 0 (loopOf Tryd.prog 37 13)
 (mkS 74
 [(1, AV.pt 0 0 0), (3, goI (↑i : Int)), (4, AV.pt 1 0 0), (5, goI (↑k : Int)),
 (6, goI (IntKind.wrap IntKind.i64 ((↑j : Int) + 1)))]
 [Row.box [AV.sl (List.map encF a)],
 Row.box [AV.sl ks, AV.sl bs, goI p, goI q, AV.sl (List.map encB bl)]])
 r))
 ((Ex.exit 4,
 mkS 74 [(1, AV.pt 0 0 0), (3, goI (↑i : Int)), (4, AV.pt 1 0 0), (5, goI (↑k : Int))]
 [Row.box [AV.sl (List.map encF a)], Row.box [AV.sl ks, AV.sl bs, goI p, goI q, AV.sl (List.map encB bl)]]) =
 r)) := by kernel_rfl
theorem insFrom_step (P : List XF) (i : Nat) (l : List XI) {j : Nat} (h : j < l.length) : U.insFrom P i l j = (U.okIns P i (U.ins l j) && U.insFrom P i l (j + 1)) := allFrom_step _ h
theorem insFrom_end {P : List XF} {i : Nat} {l : List XI} {j : Nat} (h : l.length ≤ j) : U.insFrom P i l j = true := allFrom_end _ h
theorem insBlocks_step (P : List XF) (i : Nat) {k : Nat} (h : k < (U.fun_ P i).blocks.length) : U.insBlocks P i k = (U.insFrom P i (U.blk (U.fun_ P i).blocks k).code 0 && U.insBlocks P i (k + 1)) := allFrom_step _ h
theorem insBlocks_end {P : List XF} {i k : Nat} (h : (U.fun_ P i).blocks.length ≤ k) : U.insBlocks P i k = true := allFrom_end _ h
theorem okFrom_step (P : List XF) {i : Nat} (h : i < P.length) : U.okFrom P i = ((U.okFunc (U.fun_ P i) && U.insBlocks P i 0) && U.okFrom P (i + 1)) := allFrom_step _ h
theorem okFrom_end {P : List XF} {i : Nat} (h : P.length ≤ i) : U.okFrom P i = true := allFrom_end _ h
section
variable (P : List XF) (hP : P.length ≤ 3000) (hS : ∀ f ∈ P, SmallF f)
include hP hS
theorem loop44_13 (i k : Nat) (hi : i < P.length) (hk : k < (U.fun_ P i).blocks.length) : ∀ (d j : Nat), j + d = (U.blk (U.fun_ P i).blocks k).code.length →
    LoopTo Tryd.prog H (H 37) 0 (loopOf Tryd.prog 37 13) (mkS 74 [(1, .pt 0 0 0), (3, goI i), (4, .pt 1 0 0), (5, goI k), (6, goI j)] [.box [.sl (P.map encF)], .box (encF (U.fun_ P i))])
      (if U.insFrom P i (U.blk (U.fun_ P i).blocks k).code j then (.exit 4, mkS 74 [(1, .pt 0 0 0), (3, goI i), (4, .pt 1 0 0), (5, goI k)] [.box [.sl (P.map encF)], .box (encF (U.fun_ P i))]) else (.ret, mkS 74 [(2, goI 5)] [.dead, .dead]))
  | 0, j, hd => by
    refine turnK (t44_13 P _ _ _ _ (U.fun_ P i).blocks i k j false _) ?_
    rw [rowB hk, getB hk]
    simp only [encB, rdL, slOf, List.getD_cons_zero, List.length_map]
    refine ⟨⟨by omega, by trivial⟩, ?_⟩
    rw [decide_eq_false (by omega), insFrom_end (by omega)]
    exact rfl
  | d + 1, j, hd => by
    have ih := loop44_13 i k hi hk d (j + 1) (by omega)
    have hj : j < (U.blk (U.fun_ P i).blocks k).code.length := by omega
    obtain ⟨_, _, _, s4⟩ := hS _ (fun_mem hi)
    obtain ⟨c1, c2⟩ := s4 _ (blk_mem hk)
    have h69 := wf69 P i (U.ins (U.blk (U.fun_ P i).blocks k).code j) hP (fun f hf => ⟨(hS f hf).1, (hS f hf).2.2.1⟩) (c2 _ (ins_mem hj))
    refine turnK (t44_13 P _ _ _ _ (U.fun_ P i).blocks i k j (U.okIns P i (U.ins (U.blk (U.fun_ P i).blocks k).code j)) _) ?_
    rw [rowB hk, getB hk, wrapS hj (by omega)]
    simp only [encB, rdL, slOf, List.getD_cons_zero, List.length_map]
    refine ⟨⟨by omega, by trivial⟩, ?_⟩
    rw [decide_eq_true (by omega), insFrom_step P i _ hj, rowIn hj, getIn hj]
    simp only [encIn, rdI, rdL, slOf, List.getD_cons_zero, List.getD_cons_succ, int_goI]
    refine ⟨⟨by omega, by trivial⟩, ⟨by omega, by trivial⟩, h69, ?_⟩
    cases U.okIns P i (U.ins (U.blk (U.fun_ P i).blocks k).code j) with
    | false => exact rfl
    | true => exact ih
theorem loop44_10 (i : Nat) (hi : i < P.length) : ∀ (d k : Nat), k + d = (U.fun_ P i).blocks.length →
    LoopTo Tryd.prog H (H 37) 0 (loopOf Tryd.prog 37 10) (mkS 74 [(1, .pt 0 0 0), (3, goI i), (4, .pt 1 0 0), (5, goI k)] [.box [.sl (P.map encF)], .box (encF (U.fun_ P i))])
      (if U.insBlocks P i k then (.exit 2, mkS 74 [(1, .pt 0 0 0), (3, goI i)] [.box [.sl (P.map encF)], .box (encF (U.fun_ P i))]) else (.ret, mkS 74 [(2, goI 5)] [.dead, .dead]))
  | 0, k, hd => by
    refine turnK (t44_10 P _ _ _ _ (U.fun_ P i).blocks i k false _) ?_
    rw [List.length_map, decide_eq_false (by omega), insBlocks_end (by omega)]
    exact rfl
  | d + 1, k, hd => by
    have ih := loop44_10 i hi d (k + 1) (by omega)
    have hk : k < (U.fun_ P i).blocks.length := by omega
    obtain ⟨_, _, s3, _⟩ := hS _ (fun_mem hi)
    have h := loop44_13 P hP hS i k hi hk (U.blk (U.fun_ P i).blocks k).code.length 0 (by omega)
    refine turnK (t44_10 P _ _ _ _ (U.fun_ P i).blocks i k (U.insFrom P i (U.blk (U.fun_ P i).blocks k).code 0) _) ?_
    rw [List.length_map, decide_eq_true (by omega), wrapS hk (by omega), insBlocks_step P i hk]
    cases hb : U.insFrom P i (U.blk (U.fun_ P i).blocks k).code 0 with
    | false => rw [hb] at h; exact ⟨h, rfl⟩
    | true => rw [hb] at h; exact ⟨h, ih⟩
theorem loop44_4 : ∀ (d i : Nat), i + d = P.length →
    LoopTo Tryd.prog H (H 37) 0 (loopOf Tryd.prog 37 4) (mkS 74 [(1, .pt 0 0 0), (3, goI i)] [.box [.sl (P.map encF)], .dead])
      (if U.okFrom P i then (.exit 0, mkS 74 [] [.dead, .dead]) else (.ret, mkS 74 [(2, goI 5)] [.dead, .dead]))
  | 0, i, hd => by
    refine turnK (t44_4 P i false false _) ?_
    rw [List.length_map, decide_eq_false (by omega), okFrom_end (by omega)]
    exact rfl
  | d + 1, i, hd => by
    have ih := loop44_4 d (i + 1) (by omega)
    have hi : i < P.length := by omega
    have h := loop44_10 P hP hS i hi (U.fun_ P i).blocks.length 0 (by omega)
    refine turnK (t44_4 P i (U.okFunc (U.fun_ P i)) (U.insBlocks P i 0) _) ?_
    rw [List.length_map, decide_eq_true (by omega), wrapS hi (by omega), okFrom_step P hi, rowF hi, getF hi]
    simp only [encF, rdI, rdL, slOf, List.getD_cons_zero, List.getD_cons_succ, int_goI]
    refine ⟨⟨by omega, by trivial⟩, wf68 _, ?_⟩
    cases U.okFunc (U.fun_ P i) with
    | false => exact rfl
    | true =>
      cases hb : U.insBlocks P i 0 with
      | false => rw [hb] at h; exact ⟨h, rfl⟩
      | true => rw [hb] at h; exact ⟨h, ih⟩
theorem wf44 : Wf Tryd.prog H 37 [.agg [.sl (P.map encF)]] [] = some (goI (if U.okProg P then 0 else 5), [], []) := by
  have h := loop44_4 P hP hS P.length 0 (by omega)
  refine runK (t44 P (U.okFrom P 0) _) ?_
  rw [List.length_map]
  unfold U.okProg
  refine ⟨wf67 _ _ _, ?_⟩
  cases hw : U.within (P.length : Int) 1 8 with
  | false => exact rfl
  | true =>
    obtain ⟨b1, b2⟩ := (within_iff _ _ _).1 hw
    have h0 : 0 < P.length := by omega
    rw [rowF h0, getF h0]
    simp only [encF, rdI, rdL, slOf, List.getD_cons_zero, List.getD_cons_succ, int_goI]
    refine ⟨⟨by decide, by trivial⟩, ?_⟩
    cases hp : ((U.fun_ P 0).params == 0) with
    | false => exact rfl
    | true =>
      refine ⟨⟨by decide, by trivial⟩, ?_⟩
      cases hr : ((U.fun_ P 0).result == 0) with
      | false => exact rfl
      | true =>
        cases hb : U.okFrom P 0 with
        | false => rw [hb] at h; exact ⟨h, rfl⟩
        | true => rw [hb] at h; exact ⟨h, rfl⟩
end
/-- Is a program one that isn't asked about? -/
def U.out (p : XP) : Bool := U.great p || !U.okProg p.funcs
theorem okFunc_at {P : List XF} (h : U.okProg P = true) {f : XF} (hf : f ∈ P) : U.okFunc f = true := by
  unfold U.okProg at h
  rw [Bool.and_eq_true] at h
  have h2 := h.2
  unfold U.okFrom at h2
  rw [allFrom_iff] at h2
  obtain ⟨i, hi, rfl⟩ := mem_getD hf
  have := h2 i (Nat.zero_le _) hi
  rw [Bool.and_eq_true] at this
  exact this.1
theorem okIns_at {P : List XF} (h : U.okProg P = true) {i : Nat} (hi : i < P.length) {b : XB} (hb : b ∈ (U.fun_ P i).blocks) {x : XI} (hx : x ∈ b.code) : U.okIns P i x = true := by
  unfold U.okProg at h
  rw [Bool.and_eq_true] at h
  have h2 := h.2
  unfold U.okFrom at h2
  rw [allFrom_iff] at h2
  have h3 := h2 i (Nat.zero_le _) hi
  rw [Bool.and_eq_true] at h3
  have h4 := h3.2
  unfold U.insBlocks at h4
  rw [allFrom_iff] at h4
  obtain ⟨k, hk, rfl⟩ := mem_getD hb
  have h5 := h4 k (Nat.zero_le _) hk
  unfold U.insFrom at h5
  rw [allFrom_iff] at h5
  obtain ⟨j, hj, rfl⟩ := mem_getD hx
  exact h5 j (Nat.zero_le _) hj
structure FuncOk (f : XF) : Prop where
  kinds : f.kinds.length ≤ 48
  base : f.base.length = f.kinds.length
  params : 0 ≤ f.params ∧ f.params ≤ 4 ∧ f.params ≤ f.kinds.length
  result : 0 ≤ f.result ∧ f.result ≤ 1
  blocks : 1 ≤ f.blocks.length ∧ f.blocks.length ≤ 40
  kind : ∀ i, i < f.kinds.length → U.kindOk f i = true
  code : ∀ b ∈ f.blocks, 1 ≤ b.code.length ∧ b.code.length ≤ 40
  last : ∀ b ∈ f.blocks, ∀ k, k < b.code.length → U.last (U.ins b.code k).op = decide (k + 1 = b.code.length)
theorem funcOk_of {f : XF} (h : U.okFunc f = true) : FuncOk f := by
  unfold U.okFunc at h
  simp only [Bool.and_eq_true, Bool.not_eq_true', decide_eq_false_iff_not, beq_iff_eq, within_iff] at h
  obtain ⟨⟨⟨⟨⟨⟨h1, h2⟩, h3⟩, h4⟩, h5⟩, h6⟩, h7⟩ := h
  have hb : ∀ k, k < f.blocks.length → U.blockOk f k = true := fun k hk => by
    unfold U.blocksFrom at h7
    rw [allFrom_iff] at h7
    exact h7 k (Nat.zero_le _) hk
  refine ⟨by omega, by omega, ?_, h4, by omega, fun i hi => ?_, fun b hbm => ?_, fun b hbm k hk => ?_⟩
  · split at h3 <;> omega
  · unfold U.kindsFrom at h6
    rw [allFrom_iff] at h6
    exact h6 i (Nat.zero_le _) hi
  · obtain ⟨k, hk, rfl⟩ := mem_getD hbm
    have := hb k hk
    unfold U.blockOk at this
    rw [Bool.and_eq_true, within_iff] at this
    have e : (U.blk f.blocks k) = f.blocks.getD k default := rfl
    rw [← e]
    omega
  · obtain ⟨j, hj, rfl⟩ := mem_getD hbm
    have := hb j hj
    unfold U.blockOk at this
    rw [Bool.and_eq_true] at this
    have h8 := this.2
    unfold U.lastFrom at h8
    rw [allFrom_iff] at h8
    have h9 := h8 k (Nat.zero_le _) hk
    unfold U.lastOk at h9
    have e : (U.blk f.blocks j) = f.blocks.getD j default := rfl
    rw [e] at h9
    rw [beq_iff_eq.1 h9, Bool.eq_iff_iff, beq_iff_eq, decide_eq_true_eq]
    omega
end Go.Proofs.YtabdcfcnngnnoaaDoor.E
