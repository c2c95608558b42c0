/- Functions, by what the evaluator asks; the theorems t.. were printed by show.txt, a program of this session. -/
import Derived.Test.Ythbkemkjkpaoaab17k
set_option linter.unusedVariables false
set_option linter.unusedSimpArgs false
set_option maxRecDepth 100000
namespace Go.Proofs.Ythbkemkjkpaoaab.E
open Go
namespace U
def sameAt (a b : List Mv) (j : Nat) : Bool := decide (a.getD j default = b.getD j default)
def same (a b : List Mv) (i : Nat) : Bool := allFrom (sameAt a b) i a.length
end U
def L11 (s : Bool) : Nat → St → LT := fun id st => .by s (.is (.exit 0) (mkS 26 [])) (.is .ret (mkS 26 [(4, goB false)]))

theorem t11 (a : List Mv) (b : List Mv) (s : Bool) (r : AV × List Row × List Nat) : (runT Try.prog H (fun f args sto => CT.of (F0 f args sto)) (L11 s) false 11
  [AV.sl (List.map encM a), AV.sl (List.map encM b)] [] fun q => q = r) = (TB (!(↑(List.length (List.map encM a)) : Int) == (↑(List.length (List.map encM b)) : Int)) ((goB false, [], []) = r)
  (TB s
    (LoopTo Try.prog H (H 11) 0 (loopOf Try.prog 11 4)
        (mkS 26 [(0, AV.sl (List.map encM a)), (1, AV.sl (List.map encM b)), (5, goI 0)]) (Ex.exit 0, mkS 26 []) ∧
      (goB true, [], []) = r)
    (LoopTo Try.prog H (H 11) 0 (loopOf Try.prog 11 4)
        (mkS 26 [(0, AV.sl (List.map encM a)), (1, AV.sl (List.map encM b)), (5, goI 0)])
        (Ex.ret, mkS 26 [(4, goB false)]) ∧
      (goB false, [], []) = r))) := by kernel_rfl
theorem t11_4 (a : List Mv) (b : List Mv) (i : Nat) (r : Ex × St) : (turnT Try.prog H (fun f args sto => CT.of (F0 f args sto)) (L11 true) false (H 11) 0 (loopOf Try.prog 11 4)
  (mkS 26 [(0, AV.sl (List.map encM a)), (1, AV.sl (List.map encM b)), (5, goI (↑i : Int))]) r) = (TB (decide ((↑i : Int) < (↑(List.length (List.map encM a)) : Int)))
  ((0 ≤ (↑i : Int) ∧
      (List.map encM a)[i]? =
        some
          [goI (rdI (rowAt (List.map encM a) i) 0), goI (rdI (rowAt (List.map encM a) i) 1),
            goI (rdI (rowAt (List.map encM a) i) 2), goI (rdI (rowAt (List.map encM a) i) 3)]) ∧
    (0 ≤ (↑i : Int) ∧
        (List.map encM b)[i]? =
          some
            [goI (rdI (rowAt (List.map encM b) i) 0), goI (rdI (rowAt (List.map encM b) i) 1),
              goI (rdI (rowAt (List.map encM b) i) 2), goI (rdI (rowAt (List.map encM b) i) 3)]) ∧
      TB
        (!(rdI (rowAt (List.map encM a) i) 0 == rdI (rowAt (List.map encM b) i) 0 &&
              (rdI (rowAt (List.map encM a) i) 1 == rdI (rowAt (List.map encM b) i) 1 && true) &&
            (rdI (rowAt (List.map encM a) i) 2 == rdI (rowAt (List.map encM b) i) 2 &&
                (rdI (rowAt (List.map encM a) i) 3 == rdI (rowAt (List.map encM b) i) 3 && true) &&
              true)))
        ((Ex.ret, mkS 26 [(4, goB false)]) = r)
        (LoopTo Try.prog H (H 11) 0 (loopOf Try.prog 11 4)
          (mkS 26
            [(0, AV.sl (List.map encM a)), (1, AV.sl (List.map encM b)),
              (5, goI (IntKind.wrap IntKind.i64 ((↑i : Int) + 1)))])
          r))
  ((Ex.exit 0, mkS 26 []) = r)) := by kernel_rfl
theorem Mv.eq_iff (x y : Mv) : x = y ↔ x.to = y.to ∧ x.fr = y.fr := by cases x; cases y; simp
theorem loop11_4 (a b : List Mv) (hl : a.length < 1000000) (hab : a.length = b.length) : ∀ (d i : Nat), i + d = a.length →
    LoopTo Try.prog H (H 11) 0 (loopOf Try.prog 11 4) (mkS 26 [(0, .sl (a.map encM)), (1, .sl (b.map encM)), (5, goI i)]) (if U.same a b i then (.exit 0, mkS 26 []) else (.ret, mkS 26 [(4, goB false)]))
  | 0, i, hd => by
    refine turnT_ok (F := F0) (L := L11 true) (cut := false) ?_
    rw [t11_4]
    have hi : i = a.length := by omega
    subst hi
    simp [TB_iff, U.same, allFrom_end]
  | d + 1, i, hd => by
    have hi : i < a.length := by omega
    have hib : i < b.length := by omega
    have ih := loop11_4 a b hl hab d (i + 1) (by omega)
    have hs : U.same a b i = (U.sameAt a b i && U.same a b (i + 1)) := allFrom_step _ hi
    have hat : U.sameAt a b i = decide (U.to a i = U.to b i ∧ U.fr a i = U.fr b i) := by unfold U.sameAt; rw [Bool.eq_iff_iff]; simp only [decide_eq_true_eq]; exact Mv.eq_iff _ _
    have hwr : IntKind.i64.wrap ((i : Int) + 1) = ((i + 1 : Nat) : Int) := by rw [wrap64] <;> omega
    refine turnT_ok (F := F0) (L := L11 true) (cut := false) ?_
    rw [t11_4]
    simp only [TB_iff, decide_eq_true_eq, hwr]
    refine ⟨fun _ => ?_, fun h => absurd h (by simp; omega)⟩
    rw [row13 hi, map13 hi, row13 hib, map13 hib, hs, hat]
    simp only [rdI, List.getD_cons_zero, List.getD_cons_succ, int_goI, Loc.eq_iff, and_true, true_and, Bool.and_true]
    grind
theorem wf11 (a b : List Mv) (hl : a.length < 1000000) : Wf Try.prog H 11 [.sl (a.map encM), .sl (b.map encM)] [] = some (goB (decide (a.length = b.length) && U.same a b 0), [], []) := by
  refine runT_ok (F := F0) (L := L11 (U.same a b 0)) (cut := false) ?_
  rw [t11]
  by_cases hab : a.length = b.length
  · have h := loop11_4 a b hl hab a.length 0 (by omega)
    cases h1 : U.same a b 0 <;> simp [h1, TB_iff, hab] at h ⊢ <;> exact h
  · simp [TB_iff, hab]
    exact fun h => absurd (by omega) hab
end Go.Proofs.Ythbkemkjkpaoaab.E
