/- Functions, by what the evaluator asks; the theorems t.. were printed by show.txt, a program of this session. -/
import Derived.Test.Ythbkemkjkpaoaab17e
set_option linter.unusedVariables false
set_option linter.unusedSimpArgs false
set_option maxRecDepth 100000
namespace Go.Proofs.Ythbkemkjkpaoaab.E
open Go
def F22 (p : Mv → Bool) (v : Int) : CallF := fun f args sto => match f, args with
 | 22, [.agg (.v (.int _ a) :: .v (.int _ b) :: .v (.int _ c) :: .v (.int _ d) :: _), _] => some (goB (p ⟨⟨a, b⟩, ⟨c, d⟩⟩), sto, [])
 | 21, [.agg (.v (.int _ a) :: .v (.int _ b) :: .v (.int _ c) :: .v (.int _ d) :: _)] => some (goB (p ⟨⟨a, b⟩, ⟨c, d⟩⟩), sto, [])
 | 32, _ => some (goI v, sto, [])
 | _, _ => none
def L32g (v : Int) : Nat → St → LT := fun id st => .by (decide (0 ≤ v)) (.is .ret (mkS 19 [(4, goI v)] st.sto)) (.is (.exit 0) (mkS 19 [] st.sto))

theorem t32b (l : List Mv) (p : Mv → Bool) (v : Int) (x : Loc) (r : AV × List Row × List Nat) : (runT Try.prog H (fun f args sto => CT.of (F22 p v f args sto)) (L32g v) false 32
  [AV.sl (List.map encM l), AV.clo 22 [AV.pt 0 0 0]] [Row.box (encL x)] fun q => q = r) = (TB (decide (0 ≤ v))
  (LoopTo Try.prog H (H 32) 1 (loopOf Try.prog 32 2)
      (mkS 19
        [(0, AV.sl (List.map encM l)), (1, AV.clo 22 [AV.pt 0 0 0]), (7, goI (↑(List.length (List.map encM l)) : Int)),
          (8, goI 0)]
        [Row.box [goI x.1, goI x.2]])
      (Ex.ret, mkS 19 [(4, goI v)] [Row.box [goI x.1, goI x.2]]) ∧
    (goI v, [Row.box [goI x.1, goI x.2]], []) = r)
  (LoopTo Try.prog H (H 32) 1 (loopOf Try.prog 32 2)
      (mkS 19
        [(0, AV.sl (List.map encM l)), (1, AV.clo 22 [AV.pt 0 0 0]), (7, goI (↑(List.length (List.map encM l)) : Int)),
          (8, goI 0)]
        [Row.box [goI x.1, goI x.2]])
      (Ex.exit 0, mkS 19 [] [Row.box [goI x.1, goI x.2]]) ∧
    (goI (-1), [Row.box [goI x.1, goI x.2]], []) = r)) := by kernel_rfl
theorem t32b_2 (l : List Mv) (p : Mv → Bool) (v : Int) (x : Loc) (i : Nat) (r : Ex × St) : (turnT Try.prog H (fun f args sto => CT.of (F22 p v f args sto)) (L32g v) false (H 32) 1 (loopOf Try.prog 32 2)
  (mkS 19
    [(0, AV.sl (List.map encM l)), (1, AV.clo 22 [AV.pt 0 0 0]), (7, goI (↑(List.length l) : Int)), (8, goI (↑i : Int))]
    [Row.box (encL x)])
  r) = (TB (decide ((↑i : Int) < (↑(List.length l) : Int)))
  ((0 ≤ (↑i : Int) ∧
      (List.map encM l)[i]? =
        some
          [goI (rdI (rowAt (List.map encM l) i) 0), goI (rdI (rowAt (List.map encM l) i) 1),
            goI (rdI (rowAt (List.map encM l) i) 2), goI (rdI (rowAt (List.map encM l) i) 3)]) ∧
    Wf Try.prog H 22
          [AV.agg
              [goI (rdI (rowAt (List.map encM l) i) 0), goI (rdI (rowAt (List.map encM l) i) 1),
                goI (rdI (rowAt (List.map encM l) i) 2), goI (rdI (rowAt (List.map encM l) i) 3)],
            AV.pt 0 0 0]
          [Row.box [goI x.1, goI x.2]] =
        some
          (goB
              (p
                (Mv.mk (Loc.mk (rdI (rowAt (List.map encM l) i) 0) (rdI (rowAt (List.map encM l) i) 1))
                  (Loc.mk (rdI (rowAt (List.map encM l) i) 2) (rdI (rowAt (List.map encM l) i) 3)))),
            [Row.box [goI x.1, goI x.2]], []) ∧
      TB
        (p
          (Mv.mk (Loc.mk (rdI (rowAt (List.map encM l) i) 0) (rdI (rowAt (List.map encM l) i) 1))
            (Loc.mk (rdI (rowAt (List.map encM l) i) 2) (rdI (rowAt (List.map encM l) i) 3))))
        ((Ex.ret, mkS 19 [(4, goI (↑i : Int))] [Row.box [goI x.1, goI x.2]]) = r)
        (LoopTo Try.prog H (H 32) 1 (loopOf Try.prog 32 2)
          (mkS 19
            [(0, AV.sl (List.map encM l)), (1, AV.clo 22 [AV.pt 0 0 0]), (7, goI (↑(List.length l) : Int)),
              (8, goI (IntKind.wrap IntKind.i64 ((↑i : Int) + 1)))]
            [Row.box [goI x.1, goI x.2]])
          r))
  ((Ex.exit 0, mkS 19 [] [Row.box [goI x.1, goI x.2]]) = r)) := by kernel_rfl
theorem t32c (l : List Mv) (p : Mv → Bool) (v : Int) (r : AV × List Row × List Nat) : (runT Try.prog H (fun f args sto => CT.of (F22 p v f args sto)) (L32g v) false 32 [AV.sl (List.map encM l), AV.clo 21 []]
  [] fun q => q = r) = (TB (decide (0 ≤ v))
  (LoopTo Try.prog H (H 32) 0 (loopOf Try.prog 32 2)
      (mkS 19
        [(0, AV.sl (List.map encM l)), (1, AV.clo 21 []), (7, goI (↑(List.length (List.map encM l)) : Int)),
          (8, goI 0)])
      (Ex.ret, mkS 19 [(4, goI v)]) ∧
    (goI v, [], []) = r)
  (LoopTo Try.prog H (H 32) 0 (loopOf Try.prog 32 2)
      (mkS 19
        [(0, AV.sl (List.map encM l)), (1, AV.clo 21 []), (7, goI (↑(List.length (List.map encM l)) : Int)),
          (8, goI 0)])
      (Ex.exit 0, mkS 19 []) ∧
    (goI (-1), [], []) = r)) := by kernel_rfl
theorem t32c_2 (l : List Mv) (p : Mv → Bool) (v : Int) (i : Nat) (r : Ex × St) : (turnT Try.prog H (fun f args sto => CT.of (F22 p v f args sto)) (L32g v) false (H 32) 0 (loopOf Try.prog 32 2)
  (mkS 19 [(0, AV.sl (List.map encM l)), (1, AV.clo 21 []), (7, goI (↑(List.length l) : Int)), (8, goI (↑i : Int))]) r) = (TB (decide ((↑i : Int) < (↑(List.length l) : Int)))
  ((0 ≤ (↑i : Int) ∧
      (List.map encM l)[i]? =
        some
          [goI (rdI (rowAt (List.map encM l) i) 0), goI (rdI (rowAt (List.map encM l) i) 1),
            goI (rdI (rowAt (List.map encM l) i) 2), goI (rdI (rowAt (List.map encM l) i) 3)]) ∧
    Wf Try.prog H 21
          [AV.agg
              [goI (rdI (rowAt (List.map encM l) i) 0), goI (rdI (rowAt (List.map encM l) i) 1),
                goI (rdI (rowAt (List.map encM l) i) 2), goI (rdI (rowAt (List.map encM l) i) 3)]]
          [] =
        some
          (goB
              (p
                (Mv.mk (Loc.mk (rdI (rowAt (List.map encM l) i) 0) (rdI (rowAt (List.map encM l) i) 1))
                  (Loc.mk (rdI (rowAt (List.map encM l) i) 2) (rdI (rowAt (List.map encM l) i) 3)))),
            [], []) ∧
      TB
        (p
          (Mv.mk (Loc.mk (rdI (rowAt (List.map encM l) i) 0) (rdI (rowAt (List.map encM l) i) 1))
            (Loc.mk (rdI (rowAt (List.map encM l) i) 2) (rdI (rowAt (List.map encM l) i) 3))))
        ((Ex.ret, mkS 19 [(4, goI (↑i : Int))]) = r)
        (LoopTo Try.prog H (H 32) 0 (loopOf Try.prog 32 2)
          (mkS 19
            [(0, AV.sl (List.map encM l)), (1, AV.clo 21 []), (7, goI (↑(List.length l) : Int)),
              (8, goI (IntKind.wrap IntKind.i64 ((↑i : Int) + 1)))])
          r))
  ((Ex.exit 0, mkS 19 []) = r)) := by kernel_rfl
theorem t24 (l : List Mv) (p : Mv → Bool) (v : Int) (x : Loc) (r : AV × List Row × List Nat) : (runT Try.prog H (fun f args sto => CT.of (F22 p v f args sto)) (L32g v) false 24
  [AV.sl (List.map encM l), AV.clo 22 [AV.pt 0 0 0]] [Row.box (encL x)] fun q => q = r) = (Wf Try.prog H 32 [AV.sl (List.map encM l), AV.clo 22 [AV.pt 0 0 0]] [Row.box [goI x.1, goI x.2]] =
    some (goI v, [Row.box [goI x.1, goI x.2]], []) ∧
  (goB (decide (v ≥ 0)), [Row.box [goI x.1, goI x.2]], []) = r) := by kernel_rfl
def sameP (m : Mv) : Bool := decide (m.to = m.fr)
def touchP (x : Loc) (m : Mv) : Bool := decide (m.to = x ∨ m.fr = x)
theorem firstOf_neg (p : Nat → Bool) : ∀ d i, 0 ≤ U.firstOf p d i ∨ U.firstOf p d i = -1 := by
  intro d
  induction d with
  | zero => intro i; right; rfl
  | succ d ih => intro i; simp only [U.firstOf]; split <;> first | (left; omega) | exact ih _
theorem loop32b_2 (l : List Mv) (hl : l.length < 1000000) (x : Loc) : ∀ (d i : Nat), i + d = l.length →
    LoopTo Try.prog H (H 32) 1 (loopOf Try.prog 32 2) (mkS 19 [(0, .sl (l.map encM)), (1, .clo 22 [.pt 0 0 0]), (7, goI l.length), (8, goI i)] [.box (encL x)])
      (if 0 ≤ U.firstOf (fun j => (touchP x) (l.getD j default)) d i then (.ret, mkS 19 [(4, goI (U.firstOf (fun j => (touchP x) (l.getD j default)) d i))] [.box (encL x)]) else (.exit 0, mkS 19 [] [.box (encL x)]))
  | 0, i, hd => turnT_ok (viaK (t32b_2 l (touchP x) 0 x i _) (by
    have hi : i = l.length := by omega
    subst hi
    simp [TB_iff, U.firstOf, encL, goI]))
  | d + 1, i, hd => turnT_ok (viaK (t32b_2 l (touchP x) 0 x i _) (by
    have hi : i < l.length := by omega
    have ih := loop32b_2 l hl x d (i + 1) (by omega)
    have hwr : IntKind.i64.wrap ((i : Int) + 1) = ((i + 1 : Nat) : Int) := by rw [wrap64] <;> omega
    have hp := wf22 (l.getD i default) x
    have e1 : encM (l.getD i default) = [goI (U.to l i).k, goI (U.to l i).n, goI (U.fr l i).k, goI (U.fr l i).n] := rfl
    rw [e1] at hp
    simp only [TB_iff, decide_eq_true_eq, hwr]
    refine ⟨fun _ => ?_, fun h => absurd h (by simp; omega)⟩
    rw [row13 hi, map13 hi]
    simp only [rdI, List.getD_cons_zero, List.getD_cons_succ, int_goI]
    refine ⟨⟨by omega, trivial⟩, hp, ?_⟩
    have e3 : ({ to := { k := (U.to l i).k, n := (U.to l i).n }, fr := { k := (U.fr l i).k, n := (U.fr l i).n } } : Mv) = l.getD i default := rfl
    rw [e3]
    refine ⟨fun h => ?_, fun h => ?_⟩
    · have e4 : U.firstOf (fun j => (touchP x) (l.getD j default)) (d + 1) i = (i : Int) := by simp only [U.firstOf]; exact if_pos h
      rw [e4, if_pos (by omega)] <;> try rfl
    · have e4 : U.firstOf (fun j => (touchP x) (l.getD j default)) (d + 1) i = U.firstOf (fun j => (touchP x) (l.getD j default)) d (i + 1) := by simp only [U.firstOf]; exact if_neg (by rw [h]; simp)
      rw [e4]; exact ih))
theorem wf32b (l : List Mv) (hl : l.length < 1000000) (x : Loc) : Wf Try.prog H 32 [.sl (l.map encM), .clo 22 [.pt 0 0 0]] [.box (encL x)] = some (goI (U.firstOf (fun j => (touchP x) (l.getD j default)) l.length 0), [.box (encL x)], []) := runT_ok (viaK (t32b l (touchP x) (U.firstOf (fun j => (touchP x) (l.getD j default)) l.length 0) x _) (by
  have h := loop32b_2 l hl x l.length 0 (by omega)
  have hn := firstOf_neg (fun j => (touchP x) (l.getD j default)) l.length 0
  simp only [TB_iff, decide_eq_true_eq, decide_eq_false_iff_not, List.length_map] at h ⊢
  refine ⟨fun h0 => ?_, fun h0 => ?_⟩
  · rw [if_pos h0] at h; exact ⟨h, by simp [encL]⟩
  · rw [if_neg h0] at h; rcases hn with hn | hn
    · exact absurd hn h0
    · rw [hn]; exact ⟨h, by simp [encL]⟩))
theorem loop32c_2 (l : List Mv) (hl : l.length < 1000000)  : ∀ (d i : Nat), i + d = l.length →
    LoopTo Try.prog H (H 32) 0 (loopOf Try.prog 32 2) (mkS 19 [(0, .sl (l.map encM)), (1, .clo 21 []), (7, goI l.length), (8, goI i)] [])
      (if 0 ≤ U.firstOf (fun j => (sameP) (l.getD j default)) d i then (.ret, mkS 19 [(4, goI (U.firstOf (fun j => (sameP) (l.getD j default)) d i))] []) else (.exit 0, mkS 19 [] []))
  | 0, i, hd => turnT_ok (viaK (t32c_2 l (sameP) 0  i _) (by
    have hi : i = l.length := by omega
    subst hi
    simp [TB_iff, U.firstOf, encL, goI]))
  | d + 1, i, hd => turnT_ok (viaK (t32c_2 l (sameP) 0  i _) (by
    have hi : i < l.length := by omega
    have ih := loop32c_2 l hl  d (i + 1) (by omega)
    have hwr : IntKind.i64.wrap ((i : Int) + 1) = ((i + 1 : Nat) : Int) := by rw [wrap64] <;> omega
    have hp := wf21 (l.getD i default)
    have e1 : encM (l.getD i default) = [goI (U.to l i).k, goI (U.to l i).n, goI (U.fr l i).k, goI (U.fr l i).n] := rfl
    rw [e1] at hp
    simp only [TB_iff, decide_eq_true_eq, hwr]
    refine ⟨fun _ => ?_, fun h => absurd h (by simp; omega)⟩
    rw [row13 hi, map13 hi]
    simp only [rdI, List.getD_cons_zero, List.getD_cons_succ, int_goI]
    refine ⟨⟨by omega, trivial⟩, hp, ?_⟩
    have e3 : ({ to := { k := (U.to l i).k, n := (U.to l i).n }, fr := { k := (U.fr l i).k, n := (U.fr l i).n } } : Mv) = l.getD i default := rfl
    rw [e3]
    refine ⟨fun h => ?_, fun h => ?_⟩
    · have e4 : U.firstOf (fun j => (sameP) (l.getD j default)) (d + 1) i = (i : Int) := by simp only [U.firstOf]; exact if_pos h
      rw [e4, if_pos (by omega)] <;> try rfl
    · have e4 : U.firstOf (fun j => (sameP) (l.getD j default)) (d + 1) i = U.firstOf (fun j => (sameP) (l.getD j default)) d (i + 1) := by simp only [U.firstOf]; exact if_neg (by rw [h]; simp)
      rw [e4]; exact ih))
theorem wf32c (l : List Mv) (hl : l.length < 1000000)  : Wf Try.prog H 32 [.sl (l.map encM), .clo 21 []] [] = some (goI (U.firstOf (fun j => (sameP) (l.getD j default)) l.length 0), [], []) := runT_ok (viaK (t32c l (sameP) (U.firstOf (fun j => (sameP) (l.getD j default)) l.length 0)  _) (by
  have h := loop32c_2 l hl  l.length 0 (by omega)
  have hn := firstOf_neg (fun j => (sameP) (l.getD j default)) l.length 0
  simp only [TB_iff, decide_eq_true_eq, decide_eq_false_iff_not, List.length_map] at h ⊢
  refine ⟨fun h0 => ?_, fun h0 => ?_⟩
  · rw [if_pos h0] at h; exact ⟨h, by simp [encL]⟩
  · rw [if_neg h0] at h; rcases hn with hn | hn
    · exact absurd hn h0
    · rw [hn]; exact ⟨h, by simp [encL]⟩))
theorem firstOf_any (p : Nat → Bool) : ∀ d i, decide (0 ≤ U.firstOf p d i) = !(allFrom (fun j => !(p j)) i (i + d)) := by
  intro d
  induction d with
  | zero => intro i; simp [U.firstOf, allFrom_end]
  | succ d ih =>
    intro i
    rw [allFrom_step _ (by omega)]
    have h := ih (i + 1)
    rw [show i + 1 + d = i + (d + 1) from by omega] at h
    simp only [U.firstOf]
    rcases Bool.eq_false_or_eq_true (p i) with h1 | h1
    · simp [h1] <;> omega
    · simp [h1] at h ⊢; exact h
theorem wf24 (l : List Mv) (hl : l.length < 1000000) (x : Loc) : Wf Try.prog H 24 [.sl (l.map encM), .clo 22 [.pt 0 0 0]] [.box (encL x)] = some (goB (!(allFrom (fun j => !(touchP x (l.getD j default))) 0 l.length)), [.box (encL x)], []) := runT_ok (viaK (t24 l (touchP x) (U.firstOf (fun j => touchP x (l.getD j default)) l.length 0) x _) (by
  have h := wf32b l hl x
  have h2 := firstOf_any (fun j => touchP x (l.getD j default)) l.length 0
  rw [Nat.zero_add] at h2
  rw [← h2]
  exact ⟨h, rfl⟩))

end Go.Proofs.Ythbkemkjkpaoaab.E
