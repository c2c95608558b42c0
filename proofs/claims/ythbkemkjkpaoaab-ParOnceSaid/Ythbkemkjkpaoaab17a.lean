/- Functions, by what the evaluator asks; the theorems t.. were printed by show.txt, a program of this session. -/
import Derived.Test.Ythbkemkjkpaoaab17d
set_option linter.unusedVariables false
set_option linter.unusedSimpArgs false
set_option maxRecDepth 100000
namespace Go.Proofs.Ythbkemkjkpaoaab.E
open Go
def F1 : CallF := fun f args sto => match f, args with
 | 17, [.agg [.v (.int .i64 a), .v (.int .i64 b)]] => some (.v (.bool (U.may a b)), [], [])
 | 23, [.agg [.v (.int .i64 a), .v (.int .i64 b)]] => some (.v (.bool (U.may a b)), [], [])
 | _, _ => none
def F0 : CallF := fun _ _ _ => none
def L0 : Nat → St → LT := fun id st => .no
def L13 (l : List Mv) : Nat → St → LT := fun id st => match id, st.env with
 | 2, _ => .by (U.right l 0) (.is (.exit 0) (mkS 43 [])) (.is .ret (mkS 43 [(2, .v (.bool false))]))
 | 7, .sl xs :: _ :: _ :: .v (.int _ i) :: .v (.int _ k) :: _ => .by (U.newTo l i.toNat k.toNat) (.is (.exit 2) (mkS 43 [(0, .sl xs), (3, .v (.int .i64 i))])) (.is .ret (mkS 43 [(2, .v (.bool false))]))
 | _, _ => .no

theorem t17 (a : Int) (b : Int) (r : AV × List Row × List Nat) : (runT Try.prog H (fun f args sto => CT.of (F1 f args sto)) L0 false 17 [AV.agg [goI a, goI b]] [] fun q => q = r) = (TB (a == 1)
  (TB (decide (b ≥ 0))
    (TB (decide (b ≤ 31)) ((goB true, [], []) = r)
      (TB (a == 2) (TB (decide (b ≥ 0)) ((goB (decide (b ≤ 159)), [], []) = r) ((goB false, [], []) = r))
        ((goB false, [], []) = r)))
    (TB (a == 2) (TB (decide (b ≥ 0)) ((goB (decide (b ≤ 159)), [], []) = r) ((goB false, [], []) = r))
      ((goB false, [], []) = r)))
  (TB (a == 2) (TB (decide (b ≥ 0)) ((goB (decide (b ≤ 159)), [], []) = r) ((goB false, [], []) = r))
    ((goB false, [], []) = r))) := by kernel_rfl
theorem t13 (l : List Mv) (r : AV × List Row × List Nat) : (runT Try.prog H (fun f args sto => CT.of (F1 f args sto)) (L13 l) false 13 [AV.sl (List.map encM l)] [] fun q => q = r) = (TB (U.right l 0)
  (LoopTo Try.prog H (H 13) 0 (loopOf Try.prog 13 2) (mkS 43 [(0, AV.sl (List.map encM l)), (3, goI 0)]) (Ex.exit 0, mkS 43 []) ∧
    (goB true, [], []) = r)
  (LoopTo Try.prog H (H 13) 0 (loopOf Try.prog 13 2) (mkS 43 [(0, AV.sl (List.map encM l)), (3, goI 0)])
      (Ex.ret, mkS 43 [(2, goB false)]) ∧
    (goB false, [], []) = r)) := by kernel_rfl
theorem t13_2 (l : List Mv) (i : Nat) (r : Ex × St) : (turnT Try.prog H (fun f args sto => CT.of (F1 f args sto)) (L13 l) false (H 13) 0 (loopOf Try.prog 13 2)
  (mkS 43 [(0, AV.sl (List.map encM l)), (3, goI (↑i : Int))]) r) = (TB (decide ((↑i : Int) < (↑(List.length (List.map encM l)) : Int)))
  ((0 ≤ (↑i : Int) ∧
      (List.map encM l)[i]? =
        some
          [goI (rdI (rowAt (List.map encM l) i) 0), goI (rdI (rowAt (List.map encM l) i) 1),
            goI (rdI (rowAt (List.map encM l) i) 2), goI (rdI (rowAt (List.map encM l) i) 3)]) ∧
    Wf Try.prog H 17 [AV.agg [goI (rdI (rowAt (List.map encM l) i) 0), goI (rdI (rowAt (List.map encM l) i) 1)]] [] =
        some (goB (U.may (rdI (rowAt (List.map encM l) i) 0) (rdI (rowAt (List.map encM l) i) 1)), [], []) ∧
      TB (!U.may (rdI (rowAt (List.map encM l) i) 0) (rdI (rowAt (List.map encM l) i) 1))
        ((Ex.ret, mkS 43 [(2, goB false)]) = r)
        ((0 ≤ (↑i : Int) ∧
            (List.map encM l)[i]? =
              some
                [goI (rdI (rowAt (List.map encM l) i) 0), goI (rdI (rowAt (List.map encM l) i) 1),
                  goI (rdI (rowAt (List.map encM l) i) 2), goI (rdI (rowAt (List.map encM l) i) 3)]) ∧
          Wf Try.prog H 17 [AV.agg [goI (rdI (rowAt (List.map encM l) i) 2), goI (rdI (rowAt (List.map encM l) i) 3)]]
                [] =
              some (goB (U.may (rdI (rowAt (List.map encM l) i) 2) (rdI (rowAt (List.map encM l) i) 3)), [], []) ∧
            TB (!U.may (rdI (rowAt (List.map encM l) i) 2) (rdI (rowAt (List.map encM l) i) 3))
              ((Ex.ret, mkS 43 [(2, goB false)]) = r)
              (TB (U.newTo l i 0)
                (LoopTo Try.prog H (H 13) 0 (loopOf Try.prog 13 7)
                    (mkS 43 [(0, AV.sl (List.map encM l)), (3, goI (↑i : Int)), (4, goI 0)])
                    (Ex.exit 2, mkS 43 [(0, AV.sl (List.map encM l)), (3, goI (↑i : Int))]) ∧
                  LoopTo Try.prog H (H 13) 0 (loopOf Try.prog 13 2)
                    (mkS 43 [(0, AV.sl (List.map encM l)), (3, goI (IntKind.wrap IntKind.i64 ((↑i : Int) + 1)))]) r)
                (LoopTo Try.prog H (H 13) 0 (loopOf Try.prog 13 7)
                    (mkS 43 [(0, AV.sl (List.map encM l)), (3, goI (↑i : Int)), (4, goI 0)])
                    (Ex.ret, mkS 43 [(2, goB false)]) ∧
                  (Ex.ret, mkS 43 [(2, goB false)]) = r))))
  ((Ex.exit 0, mkS 43 []) = r)) := by kernel_rfl
theorem t13_7 (l : List Mv) (i : Nat) (k : Nat) (r : Ex × St) : (turnT Try.prog H (fun f args sto => CT.of (F1 f args sto)) (L13 l) false (H 13) 0 (loopOf Try.prog 13 7)
  (mkS 43 [(0, AV.sl (List.map encM l)), (3, goI (↑i : Int)), (4, goI (↑k : Int))]) r) = (TB (decide ((↑k : Int) < (↑i : Int)))
  ((0 ≤ (↑k : Int) ∧
      (List.map encM l)[k]? =
        some
          [goI (rdI (rowAt (List.map encM l) k) 0), goI (rdI (rowAt (List.map encM l) k) 1),
            goI (rdI (rowAt (List.map encM l) k) 2), goI (rdI (rowAt (List.map encM l) k) 3)]) ∧
    (0 ≤ (↑i : Int) ∧
        (List.map encM l)[i]? =
          some
            [goI (rdI (rowAt (List.map encM l) i) 0), goI (rdI (rowAt (List.map encM l) i) 1),
              goI (rdI (rowAt (List.map encM l) i) 2), goI (rdI (rowAt (List.map encM l) i) 3)]) ∧
      TB
        (rdI (rowAt (List.map encM l) k) 0 == rdI (rowAt (List.map encM l) i) 0 &&
          (rdI (rowAt (List.map encM l) k) 1 == rdI (rowAt (List.map encM l) i) 1 && true))
        ((Ex.ret, mkS 43 [(2, goB false)]) = r)
        (LoopTo Try.prog H (H 13) 0 (loopOf Try.prog 13 7)
          (mkS 43
            [(0, AV.sl (List.map encM l)), (3, goI (↑i : Int)), (4, goI (IntKind.wrap IntKind.i64 ((↑k : Int) + 1)))])
          r))
  ((Ex.exit 2, mkS 43 [(0, AV.sl (List.map encM l)), (3, goI (↑i : Int))]) = r)) := by kernel_rfl
theorem Loc.eq_iff (x y : Loc) : x = y ↔ x.k = y.k ∧ x.n = y.n := by cases x; cases y; simp
theorem wf17 (a b : Int) : Wf Try.prog H 17 [.agg [goI a, goI b]] [] = some (goB (U.may a b), [], []) := runT_ok (viaK (t17 a b _) (by
  simp only [TB_iff, U.may, Prod.mk.injEq, goB_inj]
  grind))
theorem map13 {l : List Mv} {i : Nat} (h : i < l.length) : (l.map encM)[i]? = some [goI (U.to l i).k, goI (U.to l i).n, goI (U.fr l i).k, goI (U.fr l i).n] := rows_map h
theorem row13 {l : List Mv} {i : Nat} (h : i < l.length) : rowAt (l.map encM) i = [goI (U.to l i).k, goI (U.to l i).n, goI (U.fr l i).k, goI (U.fr l i).n] := rowAt_map h
theorem loop13_7 (l : List Mv) (hl : l.length < 1000000) (i : Nat) (hi : i < l.length) : ∀ (d k : Nat), k + d = i →
    LoopTo Try.prog H (H 13) 0 (loopOf Try.prog 13 7) (mkS 43 [(0, .sl (l.map encM)), (3, goI i), (4, goI k)]) (if U.newTo l i k then (.exit 2, mkS 43 [(0, .sl (l.map encM)), (3, goI i)]) else (.ret, mkS 43 [(2, goB false)]))
  | 0, k, hd => turnT_ok (viaK (t13_7 l i k _) (by
    have hk : k = i := by omega
    subst hk
    simp [TB_iff, U.newTo, allFrom_end]))
  | d + 1, k, hd => turnT_ok (viaK (t13_7 l i k _) (by
    have hk : k < i := by omega
    have ih := loop13_7 l hl i hi d (k + 1) (by omega)
    have hs : U.newTo l i k = (!(decide (U.to l k = U.to l i)) && U.newTo l i (k + 1)) := allFrom_step _ hk
    have hw : IntKind.i64.wrap ((k : Int) + 1) = ((k + 1 : Nat) : Int) := by rw [wrap64] <;> omega
    simp only [TB_iff, decide_eq_true_eq, hw]
    refine ⟨fun _ => ?_, fun h => absurd h (by simp; omega)⟩
    rw [row13 (show k < l.length by omega), row13 hi, map13 (show k < l.length by omega), map13 hi, hs]
    simp only [rdI, List.getD_cons_zero, List.getD_cons_succ, int_goI, Loc.eq_iff, and_true, true_and, Bool.and_true]
    grind))
theorem loop13_2 (l : List Mv) (hl : l.length < 1000000) : ∀ (d i : Nat), i + d = l.length →
    LoopTo Try.prog H (H 13) 0 (loopOf Try.prog 13 2) (mkS 43 [(0, .sl (l.map encM)), (3, goI i)]) (if U.right l i then (.exit 0, mkS 43 []) else (.ret, mkS 43 [(2, goB false)]))
  | 0, i, hd => turnT_ok (viaK (t13_2 l i _) (by
    have hi : i = l.length := by omega
    subst hi
    simp [TB_iff, U.right, allFrom_end]))
  | d + 1, i, hd => turnT_ok (viaK (t13_2 l i _) (by
    have hi : i < l.length := by omega
    have ih := loop13_2 l hl d (i + 1) (by omega)
    have h7 := loop13_7 l hl i hi i 0 (by omega)
    have hs : U.right l i = ((U.mayL (U.to l i) && U.mayL (U.fr l i) && U.newTo l i 0) && U.right l (i + 1)) := allFrom_step _ hi
    have hw : IntKind.i64.wrap ((i : Int) + 1) = ((i + 1 : Nat) : Int) := by rw [wrap64] <;> omega
    simp only [TB_iff, decide_eq_true_eq, hw]
    refine ⟨fun _ => ?_, fun h => absurd h (by simp; omega)⟩
    rw [row13 hi, map13 hi, hs]
    simp only [U.mayL, rdI, List.getD_cons_zero, List.getD_cons_succ, int_goI, wf17, true_and]
    grind))
theorem wf13 (l : List Mv) (hl : l.length < 1000000) : Wf Try.prog H 13 [.sl (l.map encM)] [] = some (goB (U.right l 0), [], []) := runT_ok (viaK (t13 l _) (by
  have h := loop13_2 l hl l.length 0 (by omega)
  cases h1 : U.right l 0 <;> simp [h1, TB] at h ⊢ <;> exact h))
end Go.Proofs.Ythbkemkjkpaoaab.E
