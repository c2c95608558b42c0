/- Functions, by what the evaluator asks; the theorems t.. were printed by show.txt, a program of this session. -/
import Derived.Test.Ythbkemkjkpaoaab17a
set_option linter.unusedVariables false
set_option linter.unusedSimpArgs false
set_option maxRecDepth 100000
namespace Go.Proofs.Ythbkemkjkpaoaab.E
open Go
def F2 : CallF := fun f args sto => match f, args with
 | 23, [.agg [.v (.int .i64 a), .v (.int .i64 b)]] => some (.v (.bool (U.may a b)), [], [])
 | _, _ => none
def L12 (l : List Mv) : Nat → St → LT := fun id st => match id, st.env with
 | 3, _ => .by (U.right l 0) (.is (.exit 0) (mkS 33 [] [.dead, .dead])) (.is .ret (mkS 33 [(2, .v (.bool false))] [.dead, .dead]))
 | _, _ => .no

theorem t23 (a : Int) (b : Int) (r : AV × List Row × List Nat) : (runT Try.prog H (fun f args sto => CT.of (F1 f args sto)) L0 false 23 [AV.agg [goI a, goI b]] [] fun q => q = r) = (TB (a == 1) (TB (decide (b ≥ 0)) ((goB (decide (b < 32)), [], []) = r) ((goB false, [], []) = r))
  (TB (a == 2) (TB (decide (b ≥ 0)) ((goB (decide (b < 160)), [], []) = r) ((goB false, [], []) = r))
    ((goB false, [], []) = r))) := by kernel_rfl
theorem t12 (l : List Mv) (r : AV × List Row × List Nat) : (runT Try.prog H (fun f args sto => CT.of (F2 f args sto)) (L12 l) false 12 [AV.sl (List.map encM l)] [] fun q => q = r) = (TB (U.right l 0)
  (LoopTo Try.prog H (H 12) 0 (loopOf Try.prog 12 3)
      (mkS 33
        [(3, AV.mp 0), (7, AV.sl (List.map encM l)), (8, goI (↑(List.length (List.map encM l)) : Int)), (9, goI 0)]
        [Row.map (true, [IntKind.i64, IntKind.i64]) [], Row.dead])
      (Ex.exit 0, mkS 33 [] [Row.dead, Row.dead]) ∧
    (goB true, [], []) = r)
  (LoopTo Try.prog H (H 12) 0 (loopOf Try.prog 12 3)
      (mkS 33
        [(3, AV.mp 0), (7, AV.sl (List.map encM l)), (8, goI (↑(List.length (List.map encM l)) : Int)), (9, goI 0)]
        [Row.map (true, [IntKind.i64, IntKind.i64]) [], Row.dead])
      (Ex.ret, mkS 33 [(2, goB false)] [Row.dead, Row.dead]) ∧
    (goB false, [], []) = r)) := by kernel_rfl
theorem t12_3 (l : List Mv) (i : Nat) (L : List (List Int × Value)) (r : Ex × St) : (turnT Try.prog H (fun f args sto => CT.of (F2 f args sto)) (L12 l) false (H 12) 0 (loopOf Try.prog 12 3)
  (mkS 33 [(3, AV.mp 0), (7, AV.sl (List.map encM l)), (8, goI (↑(List.length l) : Int)), (9, goI (↑i : Int))]
    [Row.map (true, [IntKind.i64, IntKind.i64]) L, Row.dead])
  r) = (TB (decide ((↑i : Int) < (↑(List.length l) : Int)))
  ((0 ≤ (↑i : Int) ∧
      (List.map encM l)[i]? =
        some
          [goI (rdI (rowAt (List.map encM l) i) 0), goI (rdI (rowAt (List.map encM l) i) 1),
            goI (rdI (rowAt (List.map encM l) i) 2), goI (rdI (rowAt (List.map encM l) i) 3)]) ∧
    goodKey [IntKind.i64, IntKind.i64] [rdI (rowAt (List.map encM l) i) 0, rdI (rowAt (List.map encM l) i) 1] = true ∧
      atKeyV [rdI (rowAt (List.map encM l) i) 0, rdI (rowAt (List.map encM l) i) 1] (Value.bool false) L =
          Value.bool
            (boolOf
              (AV.v
                (atKeyV [rdI (rowAt (List.map encM l) i) 0, rdI (rowAt (List.map encM l) i) 1] (Value.bool false) L))) ∧
        TB
          (boolOf
            (AV.v (atKeyV [rdI (rowAt (List.map encM l) i) 0, rdI (rowAt (List.map encM l) i) 1] (Value.bool false) L)))
          ((Ex.ret, mkS 33 [(2, goB false)] [Row.dead, Row.dead]) = r)
          (Wf Try.prog H 23 [AV.agg [goI (rdI (rowAt (List.map encM l) i) 0), goI (rdI (rowAt (List.map encM l) i) 1)]]
                [] =
              some (goB (U.may (rdI (rowAt (List.map encM l) i) 0) (rdI (rowAt (List.map encM l) i) 1)), [], []) ∧
            TB (!U.may (rdI (rowAt (List.map encM l) i) 0) (rdI (rowAt (List.map encM l) i) 1))
              ((Ex.ret, mkS 33 [(2, goB false)] [Row.dead, Row.dead]) = r)
              (Wf Try.prog H 23
                    [AV.agg [goI (rdI (rowAt (List.map encM l) i) 2), goI (rdI (rowAt (List.map encM l) i) 3)]] [] =
                  some (goB (U.may (rdI (rowAt (List.map encM l) i) 2) (rdI (rowAt (List.map encM l) i) 3)), [], []) ∧
                TB (!U.may (rdI (rowAt (List.map encM l) i) 2) (rdI (rowAt (List.map encM l) i) 3))
                  ((Ex.ret, mkS 33 [(2, goB false)] [Row.dead, Row.dead]) = r)
                  (goodKey [IntKind.i64, IntKind.i64]
                        [rdI (rowAt (List.map encM l) i) 0, rdI (rowAt (List.map encM l) i) 1] =
                      true ∧
                    LoopTo Try.prog H (H 12) 0 (loopOf Try.prog 12 3)
                      (mkS 33
                        [(3, AV.mp 0), (7, AV.sl (List.map encM l)), (8, goI (↑(List.length l) : Int)),
                          (9, goI (IntKind.wrap IntKind.i64 ((↑i : Int) + 1)))]
                        [Row.map (true, [IntKind.i64, IntKind.i64])
                            (updL [rdI (rowAt (List.map encM l) i) 0, rdI (rowAt (List.map encM l) i) 1]
                              (Value.bool true) L),
                          Row.dead])
                      r))))
  ((Ex.exit 0, mkS 33 [] [Row.dead, Row.dead]) = r)) := by kernel_rfl
theorem wf23 (a b : Int) : Wf Try.prog H 23 [.agg [goI a, goI b]] [] = some (goB (U.may a b), [], []) := by
  refine runT_ok (F := F1) (L := L0) (cut := false) ?_
  rw [t23]
  simp only [TB_iff, U.may, Prod.mk.injEq, goB_inj]
  grind
/-- Numbers that a machine has. -/
def In64 (x : Int) : Prop := -9223372036854775808 ≤ x ∧ x ≤ 9223372036854775807
def Loc.ok (x : Loc) : Prop := In64 x.k ∧ In64 x.n
def Mv.ok (m : Mv) : Prop := m.to.ok ∧ m.fr.ok
theorem to_ok {l : List Mv} (hw : ∀ m ∈ l, m.ok) {i : Nat} (hi : i < l.length) : (U.to l i).ok ∧ (U.fr l i).ok := by
  have h := hw (l.getD i default) (by rw [List.getD_eq_getElem?_getD, List.getElem?_eq_getElem hi]; exact List.getElem_mem hi)
  exact h
theorem loop12_3 (l : List Mv) (hl : l.length < 1000000) (hw : ∀ m ∈ l, m.ok) : ∀ (d i : Nat) (L : List (List Int × Value)), i + d = l.length →
    (∀ x : Loc, atKeyV [x.k, x.n] (.bool false) L = .bool (!(allFrom (fun j => !(decide (U.to l j = x))) 0 i))) →
    LoopTo Try.prog H (H 12) 0 (loopOf Try.prog 12 3) (mkS 33 [(3, .mp 0), (7, .sl (l.map encM)), (8, goI l.length), (9, goI i)] [.map (true, [.i64, .i64]) L, .dead]) (if U.right l i then (.exit 0, mkS 33 [] [.dead, .dead]) else (.ret, mkS 33 [(2, goB false)] [.dead, .dead]))
  | 0, i, L, hd, hL => turnT_ok (viaK (t12_3 l i L _) (by
    have hi : i = l.length := by omega
    subst hi
    simp [TB_iff, U.right, allFrom_end]))
  | d + 1, i, L, hd, hL => turnT_ok (viaK (t12_3 l i L _) (by
    have hi : i < l.length := by omega
    have hs : U.right l i = ((U.mayL (U.to l i) && U.mayL (U.fr l i) && U.newTo l i 0) && U.right l (i + 1)) := allFrom_step _ hi
    have hwr : IntKind.i64.wrap ((i : Int) + 1) = ((i + 1 : Nat) : Int) := by rw [wrap64] <;> omega
    have hg := to_ok hw hi
    have ih := loop12_3 l hl hw d (i + 1) (updL [(U.to l i).k, (U.to l i).n] (.bool true) L) (by omega) (fun x => by
      rw [atKeyV_updL, hL x, allFrom_last _ (Nat.zero_le i)]
      by_cases e : U.to l i = x
      · subst e; simp
      · rw [if_neg (fun h => e (by simp only [List.cons.injEq, and_true] at h; exact (Loc.eq_iff _ _).2 h))]
        simp [e])
    have hn : allFrom (fun j => !(decide (U.to l j = U.to l i))) 0 i = U.newTo l i 0 := rfl
    simp only [TB_iff, decide_eq_true_eq, hwr]
    refine ⟨fun _ => ?_, fun h => absurd h (by simp; omega)⟩
    rw [row13 hi, map13 hi, hs]
    simp only [U.mayL, rdI, List.getD_cons_zero, List.getD_cons_succ, int_goI, wf23, true_and, hL (U.to l i), bool_v, good2 hg.1.1 hg.1.2, hn]
    grind))
theorem wf12 (l : List Mv) (hl : l.length < 1000000) (hw : ∀ m ∈ l, m.ok) : Wf Try.prog H 12 [.sl (l.map encM)] [] = some (goB (U.right l 0), [], []) := runT_ok (viaK (t12 l _) (by
  have h := loop12_3 l hl hw l.length 0 [] (by omega) (fun x => by simp [atKeyV, valL, allFrom_end])
  cases h1 : U.right l 0 <;> simp [h1, TB] at h ⊢ <;> exact h))
end Go.Proofs.Ythbkemkjkpaoaab.E
