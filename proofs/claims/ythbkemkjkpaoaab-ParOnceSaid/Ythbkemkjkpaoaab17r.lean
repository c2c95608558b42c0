/- Functions, by what the evaluator asks; the theorems t.. were printed by show.txt, a program of this session. -/
import Derived.Test.Ythbkemkjkpaoaab17p
set_option linter.unusedVariables false
set_option linter.unusedSimpArgs false
set_option maxRecDepth 100000
namespace Go.Proofs.Ythbkemkjkpaoaab.E
open Go
def encI (n : Int) : List AV := [goI n]
namespace U
def lc (at_ : List Loc) (i : Nat) : Loc := at_.getD i default
def idx (at_ : List Loc) (x : Loc) : Int := firstOf (fun j => decide (lc at_ j = x)) at_.length 0
def nt (h : List Int) (i : Nat) : Int := h.getD i 0
def ints (a b : List Int) (i : Nat) : Bool := allFrom (fun j => decide (nt a j = nt b j)) i a.length
def hasFrom (at_ : List Loc) (x : Loc) (i : Nat) : Bool := !(allFrom (fun j => !(decide (lc at_ j = x))) i at_.length)
end U
def L30 (n : Nat) (v : Int) (b : Bool) (box : List Row) : Nat → St → LT := fun id st => .by b (.is .ret (mkS n [(4, goI v)] [.dead])) (.is (.exit 0) (mkS n [] [.dead]))
def L18 (n : Nat) (b : Bool) : Nat → St → LT := fun id st => .by b (.is .ret (mkS n [(4, goB true)] [.dead])) (.is (.exit 0) (mkS n [] [.dead]))
def L14 (s : Bool) : Nat → St → LT := fun id st => .by s (.is (.exit 0) (mkS 26 [])) (.is .ret (mkS 26 [(4, goB false)]))

theorem t30 (l : List Loc) (x : Loc) (v : Int) (b : Bool) (r : AV × List Row × List Nat) : (runT Try.prog H (fun f args sto => CT.of (F0 f args sto)) (L30 19 v b []) false 30
  [AV.sl (List.map encL l), AV.agg (encL x)] [] fun q => q = r) = (TB b
  (LoopTo Try.prog H (H 30) 0 (loopOf Try.prog 30 2)
      (mkS 19
        [(0, AV.sl (List.map encL l)), (3, AV.pt 0 0 0), (7, goI (↑(List.length (List.map encL l)) : Int)), (8, goI 0)]
        [Row.box [goI x.1, goI x.2]])
      (Ex.ret, mkS 19 [(4, goI v)] [Row.dead]) ∧
    (goI v, [], []) = r)
  (LoopTo Try.prog H (H 30) 0 (loopOf Try.prog 30 2)
      (mkS 19
        [(0, AV.sl (List.map encL l)), (3, AV.pt 0 0 0), (7, goI (↑(List.length (List.map encL l)) : Int)), (8, goI 0)]
        [Row.box [goI x.1, goI x.2]])
      (Ex.exit 0, mkS 19 [] [Row.dead]) ∧
    (goI (-1), [], []) = r)) := by kernel_rfl
theorem t30_2 (l : List Loc) (x : Loc) (i : Nat) (r : Ex × St) : (turnT Try.prog H (fun f args sto => CT.of (F0 f args sto)) L0 false (H 30) 0 (loopOf Try.prog 30 2)
  (mkS 19 [(0, AV.sl (List.map encL l)), (3, AV.pt 0 0 0), (7, goI (↑(List.length l) : Int)), (8, goI (↑i : Int))]
    [Row.box (encL x)])
  r) = (TB (decide ((↑i : Int) < (↑(List.length l) : Int)))
  ((0 ≤ (↑i : Int) ∧
      (List.map encL l)[i]? = some [goI (rdI (rowAt (List.map encL l) i) 0), goI (rdI (rowAt (List.map encL l) i) 1)]) ∧
    TB (x.1 == rdI (rowAt (List.map encL l) i) 0 && (x.2 == rdI (rowAt (List.map encL l) i) 1 && true))
      ((Ex.ret, mkS 19 [(4, goI (↑i : Int))] [Row.dead]) = r)
      (LoopTo Try.prog H (H 30) 0 (loopOf Try.prog 30 2)
        (mkS 19
          [(0, AV.sl (List.map encL l)), (3, AV.pt 0 0 0), (7, goI (↑(List.length l) : Int)),
            (8, goI (IntKind.wrap IntKind.i64 ((↑i : Int) + 1)))]
          [Row.box [goI x.1, goI x.2]])
        r))
  ((Ex.exit 0, mkS 19 [] [Row.dead]) = r)) := by kernel_rfl
theorem t31 (l : List Loc) (x : Loc) (v : Int) (b : Bool) (r : AV × List Row × List Nat) : (runT Try.prog H (fun f args sto => CT.of (F0 f args sto)) (L30 19 v b []) false 31
  [AV.sl (List.map encL l), AV.agg (encL x)] [] fun q => q = r) = (TB b
  (LoopTo Try.prog H (H 31) 0 (loopOf Try.prog 31 2)
      (mkS 19 [(0, AV.sl (List.map encL l)), (3, AV.pt 0 0 0), (5, goI 0)] [Row.box [goI x.1, goI x.2]])
      (Ex.ret, mkS 19 [(4, goI v)] [Row.dead]) ∧
    (goI v, [], []) = r)
  (LoopTo Try.prog H (H 31) 0 (loopOf Try.prog 31 2)
      (mkS 19 [(0, AV.sl (List.map encL l)), (3, AV.pt 0 0 0), (5, goI 0)] [Row.box [goI x.1, goI x.2]])
      (Ex.exit 0, mkS 19 [] [Row.dead]) ∧
    (goI (-1), [], []) = r)) := by kernel_rfl
theorem t31_2 (l : List Loc) (x : Loc) (i : Nat) (r : Ex × St) : (turnT Try.prog H (fun f args sto => CT.of (F0 f args sto)) L0 false (H 31) 0 (loopOf Try.prog 31 2)
  (mkS 19 [(0, AV.sl (List.map encL l)), (3, AV.pt 0 0 0), (5, goI (↑i : Int))] [Row.box (encL x)]) r) = (TB (decide ((↑i : Int) < (↑(List.length (List.map encL l)) : Int)))
  ((0 ≤ (↑i : Int) ∧
      (List.map encL l)[i]? = some [goI (rdI (rowAt (List.map encL l) i) 0), goI (rdI (rowAt (List.map encL l) i) 1)]) ∧
    TB (rdI (rowAt (List.map encL l) i) 0 == x.1 && (rdI (rowAt (List.map encL l) i) 1 == x.2 && true))
      ((Ex.ret, mkS 19 [(4, goI (↑i : Int))] [Row.dead]) = r)
      (LoopTo Try.prog H (H 31) 0 (loopOf Try.prog 31 2)
        (mkS 19 [(0, AV.sl (List.map encL l)), (3, AV.pt 0 0 0), (5, goI (IntKind.wrap IntKind.i64 ((↑i : Int) + 1)))]
          [Row.box [goI x.1, goI x.2]])
        r))
  ((Ex.exit 0, mkS 19 [] [Row.dead]) = r)) := by kernel_rfl
theorem t18 (l : List Loc) (x : Loc) (b : Bool) (r : AV × List Row × List Nat) : (runT Try.prog H (fun f args sto => CT.of (F0 f args sto)) (L18 18 b) false 18 [AV.sl (List.map encL l), AV.agg (encL x)]
  [] fun q => q = r) = (TB b
  (LoopTo Try.prog H (H 18) 0 (loopOf Try.prog 18 2)
      (mkS 18 [(0, AV.sl (List.map encL l)), (3, AV.pt 0 0 0), (5, goI 0)] [Row.box [goI x.1, goI x.2]])
      (Ex.ret, mkS 18 [(4, goB true)] [Row.dead]) ∧
    (goB true, [], []) = r)
  (LoopTo Try.prog H (H 18) 0 (loopOf Try.prog 18 2)
      (mkS 18 [(0, AV.sl (List.map encL l)), (3, AV.pt 0 0 0), (5, goI 0)] [Row.box [goI x.1, goI x.2]])
      (Ex.exit 0, mkS 18 [] [Row.dead]) ∧
    (goB false, [], []) = r)) := by kernel_rfl
theorem t18_2 (l : List Loc) (x : Loc) (i : Nat) (r : Ex × St) : (turnT Try.prog H (fun f args sto => CT.of (F0 f args sto)) L0 false (H 18) 0 (loopOf Try.prog 18 2)
  (mkS 18 [(0, AV.sl (List.map encL l)), (3, AV.pt 0 0 0), (5, goI (↑i : Int))] [Row.box (encL x)]) r) = (TB (decide ((↑i : Int) < (↑(List.length (List.map encL l)) : Int)))
  ((0 ≤ (↑i : Int) ∧
      (List.map encL l)[i]? = some [goI (rdI (rowAt (List.map encL l) i) 0), goI (rdI (rowAt (List.map encL l) i) 1)]) ∧
    TB (rdI (rowAt (List.map encL l) i) 0 == x.1 && (rdI (rowAt (List.map encL l) i) 1 == x.2 && true))
      ((Ex.ret, mkS 18 [(4, goB true)] [Row.dead]) = r)
      (LoopTo Try.prog H (H 18) 0 (loopOf Try.prog 18 2)
        (mkS 18 [(0, AV.sl (List.map encL l)), (3, AV.pt 0 0 0), (5, goI (IntKind.wrap IntKind.i64 ((↑i : Int) + 1)))]
          [Row.box [goI x.1, goI x.2]])
        r))
  ((Ex.exit 0, mkS 18 [] [Row.dead]) = r)) := by kernel_rfl
theorem t14 (a : List Int) (b : List Int) (s : Bool) (r : AV × List Row × List Nat) : (runT Try.prog H (fun f args sto => CT.of (F0 f args sto)) (L14 s) false 14
  [AV.sl (List.map encI a), AV.sl (List.map encI b)] [] fun q => q = r) = (TB (!(↑(List.length (List.map encI a)) : Int) == (↑(List.length (List.map encI b)) : Int)) ((goB false, [], []) = r)
  (TB s
    (LoopTo Try.prog H (H 14) 0 (loopOf Try.prog 14 4)
        (mkS 26 [(0, AV.sl (List.map encI a)), (1, AV.sl (List.map encI b)), (5, goI 0)]) (Ex.exit 0, mkS 26 []) ∧
      (goB true, [], []) = r)
    (LoopTo Try.prog H (H 14) 0 (loopOf Try.prog 14 4)
        (mkS 26 [(0, AV.sl (List.map encI a)), (1, AV.sl (List.map encI b)), (5, goI 0)])
        (Ex.ret, mkS 26 [(4, goB false)]) ∧
      (goB false, [], []) = r))) := by kernel_rfl
theorem t14_4 (a : List Int) (b : List Int) (i : Nat) (r : Ex × St) : (turnT Try.prog H (fun f args sto => CT.of (F0 f args sto)) L0 false (H 14) 0 (loopOf Try.prog 14 4)
  (mkS 26 [(0, AV.sl (List.map encI a)), (1, AV.sl (List.map encI b)), (5, goI (↑i : Int))]) r) = (TB (decide ((↑i : Int) < (↑(List.length (List.map encI a)) : Int)))
  ((0 ≤ (↑i : Int) ∧ (List.map encI a)[i]? = some [goI (rdI (rowAt (List.map encI a) i) 0)]) ∧
    (0 ≤ (↑i : Int) ∧ (List.map encI b)[i]? = some [goI (rdI (rowAt (List.map encI b) i) 0)]) ∧
      TB (!rdI (rowAt (List.map encI a) i) 0 == rdI (rowAt (List.map encI b) i) 0)
        ((Ex.ret, mkS 26 [(4, goB false)]) = r)
        (LoopTo Try.prog H (H 14) 0 (loopOf Try.prog 14 4)
          (mkS 26
            [(0, AV.sl (List.map encI a)), (1, AV.sl (List.map encI b)),
              (5, goI (IntKind.wrap IntKind.i64 ((↑i : Int) + 1)))])
          r))
  ((Ex.exit 0, mkS 26 []) = r)) := by kernel_rfl
theorem rowL {l : List Loc} {i : Nat} (h : i < l.length) : rowAt (l.map encL) i = [goI (U.lc l i).k, goI (U.lc l i).n] := rowAt_map h
theorem getL {l : List Loc} {i : Nat} (h : i < l.length) : (l.map encL)[i]? = some [goI (U.lc l i).k, goI (U.lc l i).n] := rows_map h
theorem rowI {l : List Int} {i : Nat} (h : i < l.length) : rowAt (l.map encI) i = [goI (U.nt l i)] := rowAt_map h
theorem getI {l : List Int} {i : Nat} (h : i < l.length) : (l.map encI)[i]? = some [goI (U.nt l i)] := rows_map h
theorem wrapS {i n : Nat} (hi : i < n) (hn : n < 1000000) : IntKind.i64.wrap ((i : Int) + 1) = ((i + 1 : Nat) : Int) := by rw [wrap64] <;> omega
theorem firstOf_step (p : Nat → Bool) (d i : Nat) : U.firstOf p (d + 1) i = if p i then (i : Int) else U.firstOf p d (i + 1) := rfl
theorem loop30_2 (l : List Loc) (x : Loc) (hl : l.length < 1000000) : ∀ (d i : Nat), i + d = l.length →
    LoopTo Try.prog H (H 30) 0 (loopOf Try.prog 30 2) (mkS 19 [(0, .sl (l.map encL)), (3, .pt 0 0 0), (7, goI l.length), (8, goI i)] [.box (encL x)])
      (if 0 ≤ U.firstOf (fun j => decide (U.lc l j = x)) d i then (.ret, mkS 19 [(4, goI (U.firstOf (fun j => decide (U.lc l j = x)) d i))] [.dead]) else (.exit 0, mkS 19 [] [.dead]))
  | 0, i, hd => by
    refine turnK (t30_2 l x i _) ?_
    rw [decide_eq_false (by omega)]
    exact (if_neg (by simp [U.firstOf])).symm
  | d + 1, i, hd => by
    refine turnK (t30_2 l x i _) ?_
    have hi : i < l.length := by omega
    have ih := loop30_2 l x hl d (i + 1) (by omega)
    rw [decide_eq_true (by omega), wrapS hi hl, rowL hi, getL hi]
    simp only [rdI, List.getD_cons_zero, List.getD_cons_succ, int_goI, Bool.and_true, Loc.beq]
    refine ⟨⟨by omega, by trivial⟩, ?_⟩
    by_cases h : x = U.lc l i
    · have e : U.firstOf (fun j => decide (U.lc l j = x)) (d + 1) i = (i : Int) := by rw [firstOf_step]; exact if_pos (decide_eq_true h.symm)
      rw [decide_eq_true h, e, if_pos (by omega)]; rfl
    · have e : U.firstOf (fun j => decide (U.lc l j = x)) (d + 1) i = U.firstOf (fun j => decide (U.lc l j = x)) d (i + 1) := by rw [firstOf_step]; exact if_neg (by simp; exact fun e => h e.symm)
      rw [decide_eq_false h, e]; exact ih
theorem wf30 (l : List Loc) (x : Loc) (hl : l.length < 1000000) : Wf Try.prog H 30 [.sl (l.map encL), .agg (encL x)] [] = some (goI (U.idx l x), [], []) := by
  refine runK (t30 l x (U.idx l x) (decide (0 ≤ U.idx l x)) _) ?_
  have h := loop30_2 l x hl l.length 0 (by omega)
  rw [List.length_map]
  rcases firstOf_neg (fun j => decide (U.lc l j = x)) l.length 0 with hp | hp
  · rw [if_pos hp] at h
    rw [decide_eq_true (show 0 ≤ U.idx l x from hp)]
    exact ⟨h, rfl⟩
  · rw [if_neg (by omega)] at h
    rw [show U.idx l x = -1 from hp]
    exact ⟨h, rfl⟩
theorem loop31_2 (l : List Loc) (x : Loc) (hl : l.length < 1000000) : ∀ (d i : Nat), i + d = l.length →
    LoopTo Try.prog H (H 31) 0 (loopOf Try.prog 31 2) (mkS 19 [(0, .sl (l.map encL)), (3, .pt 0 0 0), (5, goI i)] [.box (encL x)])
      (if 0 ≤ U.firstOf (fun j => decide (U.lc l j = x)) d i then (.ret, mkS 19 [(4, goI (U.firstOf (fun j => decide (U.lc l j = x)) d i))] [.dead]) else (.exit 0, mkS 19 [] [.dead]))
  | 0, i, hd => by
    refine turnK (t31_2 l x i _) ?_
    rw [List.length_map, decide_eq_false (by omega)]
    exact (if_neg (by simp [U.firstOf])).symm
  | d + 1, i, hd => by
    refine turnK (t31_2 l x i _) ?_
    have hi : i < l.length := by omega
    have ih := loop31_2 l x hl d (i + 1) (by omega)
    rw [List.length_map, decide_eq_true (by omega), wrapS hi hl, rowL hi, getL hi]
    simp only [rdI, List.getD_cons_zero, List.getD_cons_succ, int_goI, Bool.and_true, Loc.beq]
    refine ⟨⟨by omega, by trivial⟩, ?_⟩
    by_cases h : U.lc l i = x
    · have e : U.firstOf (fun j => decide (U.lc l j = x)) (d + 1) i = (i : Int) := by rw [firstOf_step]; exact if_pos (decide_eq_true h)
      rw [decide_eq_true h, e, if_pos (by omega)]; rfl
    · have e : U.firstOf (fun j => decide (U.lc l j = x)) (d + 1) i = U.firstOf (fun j => decide (U.lc l j = x)) d (i + 1) := by rw [firstOf_step]; exact if_neg (by simpa using h)
      rw [decide_eq_false h, e]; exact ih
theorem wf31 (l : List Loc) (x : Loc) (hl : l.length < 1000000) : Wf Try.prog H 31 [.sl (l.map encL), .agg (encL x)] [] = some (goI (U.idx l x), [], []) := by
  refine runK (t31 l x (U.idx l x) (decide (0 ≤ U.idx l x)) _) ?_
  have h := loop31_2 l x hl l.length 0 (by omega)
  rcases firstOf_neg (fun j => decide (U.lc l j = x)) l.length 0 with hp | hp
  · rw [if_pos hp] at h
    rw [decide_eq_true (show 0 ≤ U.idx l x from hp)]
    exact ⟨h, rfl⟩
  · rw [if_neg (by omega)] at h
    rw [show U.idx l x = -1 from hp]
    exact ⟨h, rfl⟩
theorem loop18_2 (l : List Loc) (x : Loc) (hl : l.length < 1000000) : ∀ (d i : Nat), i + d = l.length →
    LoopTo Try.prog H (H 18) 0 (loopOf Try.prog 18 2) (mkS 18 [(0, .sl (l.map encL)), (3, .pt 0 0 0), (5, goI i)] [.box (encL x)])
      (if U.hasFrom l x i then (.ret, mkS 18 [(4, goB true)] [.dead]) else (.exit 0, mkS 18 [] [.dead]))
  | 0, i, hd => by
    refine turnK (t18_2 l x i _) ?_
    rw [List.length_map, decide_eq_false (by omega)]
    have hi : i = l.length := by omega
    subst hi
    rw [if_neg (by simp [U.hasFrom, allFrom_end])]
    rfl
  | d + 1, i, hd => by
    refine turnK (t18_2 l x i _) ?_
    have hi : i < l.length := by omega
    have ih := loop18_2 l x hl d (i + 1) (by omega)
    have hs : U.hasFrom l x i = (decide (U.lc l i = x) || U.hasFrom l x (i + 1)) := by
      unfold U.hasFrom; rw [allFrom_step _ hi]; simp [Bool.not_and]
    rw [List.length_map, decide_eq_true (by omega), wrapS hi hl, rowL hi, getL hi, hs]
    simp only [rdI, List.getD_cons_zero, List.getD_cons_succ, int_goI, Bool.and_true, Loc.beq]
    refine ⟨⟨by omega, by trivial⟩, ?_⟩
    cases decide (U.lc l i = x) with
    | true => exact rfl
    | false => exact ih
theorem wf18 (l : List Loc) (x : Loc) (hl : l.length < 1000000) : Wf Try.prog H 18 [.sl (l.map encL), .agg (encL x)] [] = some (goB (U.hasFrom l x 0), [], []) := by
  refine runK (t18 l x (U.hasFrom l x 0) _) ?_
  have h := loop18_2 l x hl l.length 0 (by omega)
  cases h1 : U.hasFrom l x 0 with
  | true => rw [h1] at h; exact ⟨h, rfl⟩
  | false => rw [h1] at h; exact ⟨h, rfl⟩
theorem loop14_4 (a b : List Int) (hl : a.length < 1000000) (hab : a.length = b.length) : ∀ (d i : Nat), i + d = a.length →
    LoopTo Try.prog H (H 14) 0 (loopOf Try.prog 14 4) (mkS 26 [(0, .sl (a.map encI)), (1, .sl (b.map encI)), (5, goI i)])
      (if U.ints a b i then (.exit 0, mkS 26 []) else (.ret, mkS 26 [(4, goB false)]))
  | 0, i, hd => by
    refine turnK (t14_4 a b i _) ?_
    rw [List.length_map, decide_eq_false (by omega)]
    have hi : i = a.length := by omega
    subst hi
    rw [if_pos (by simp [U.ints, allFrom_end])]
    rfl
  | d + 1, i, hd => by
    refine turnK (t14_4 a b i _) ?_
    have hi : i < a.length := by omega
    have hib : i < b.length := by omega
    have ih := loop14_4 a b hl hab d (i + 1) (by omega)
    have hs : U.ints a b i = (decide (U.nt a i = U.nt b i) && U.ints a b (i + 1)) := allFrom_step _ hi
    rw [List.length_map, decide_eq_true (by omega), wrapS hi hl, rowI hi, getI hi, rowI hib, getI hib, hs]
    simp only [rdI, List.getD_cons_zero, List.getD_cons_succ, int_goI, Bool.and_true]
    refine ⟨⟨by omega, by trivial⟩, ⟨by omega, by trivial⟩, ?_⟩
    by_cases h : U.nt a i = U.nt b i
    · rw [h, beq_self_eq_true, decide_eq_true rfl]; exact ih
    · rw [decide_eq_false h, beq_eq_false_iff_ne.2 h]; exact rfl
theorem wf14 (a b : List Int) (hl : a.length < 1000000) : Wf Try.prog H 14 [.sl (a.map encI), .sl (b.map encI)] [] = some (goB (decide (a.length = b.length) && U.ints a b 0), [], []) := by
  refine runK (t14 a b (U.ints a b 0) _) ?_
  rw [List.length_map, List.length_map]
  by_cases hab : a.length = b.length
  · have h := loop14_4 a b hl hab a.length 0 (by omega)
    rw [hab, beq_self_eq_true, decide_eq_true rfl]
    cases h1 : U.ints a b 0 with
    | true => rw [h1] at h; exact ⟨h, rfl⟩
    | false => rw [h1] at h; exact ⟨h, rfl⟩
  · have h2 : ((a.length : Int) == (b.length : Int)) = false := beq_eq_false_iff_ne.2 (by omega)
    rw [decide_eq_false hab, h2]
    exact rfl
theorem intsSame (a : List Int) : (decide (a.length = a.length) && U.ints a a 0) = true := by
  simp [U.ints, allFrom_iff]
end Go.Proofs.Ythbkemkjkpaoaab.E
