/- Functions, by what the evaluator asks; the theorems t.. were printed by show.txt, a program of this session. -/
import Derived.Test.Ythbkemkjkpaoaac16d
set_option linter.unusedVariables false
set_option linter.unusedSimpArgs false
set_option maxRecDepth 100000
namespace Go.Proofs.Ythbkemkjkpaoaac.E
open Go
namespace U
def meet (a b : Span) : Bool := decide (a.fr ≤ a.to) && (decide (b.fr ≤ b.to) && (decide (a.fr ≤ b.to) && decide (b.fr ≤ a.to)))
def sp (l : List Span) (i : Nat) : Span := l.getD i default
def lc (l : List Loc) (i : Nat) : Loc := l.getD i default
end U
def L11 (n : Nat) (s : Bool) : Nat → St → LT := fun id st => .by s (.is (.exit 0) (mkS n [])) (.is .ret (mkS n [(4, goB false)]))
def L28 (n : Nat) (v : Int) (b : Bool) : Nat → St → LT := fun id st => .by b (.is .ret (mkS n [(4, goI v)])) (.is (.exit 0) (mkS n []))

theorem t23 (a : Span) (b : Span) (r : AV × List Row × List Nat) : (runT Try.prog H (fun f args sto => CT.of (F0 f args sto)) L0 false 23 [AV.agg (encS a), AV.agg (encS b)] [] fun q =>
  q = r) = (TB (decide (a.2 ≤ a.3))
  (TB (decide (b.2 ≤ b.3)) (TB (decide (a.2 ≤ b.3)) ((goB (decide (b.2 ≤ a.3)), [], []) = r) ((goB false, [], []) = r))
    ((goB false, [], []) = r))
  ((goB false, [], []) = r)) := by kernel_rfl
theorem t24 (a : Span) (b : Span) (r : AV × List Row × List Nat) : (runT Try.prog H (fun f args sto => CT.of (F0 f args sto)) L0 false 24 [AV.agg (encS a), AV.agg (encS b)] [] fun q =>
  q = r) = ((goB
      (decide
        ((if true = true then if a.2 < b.2 then b.2 else a.2 else if b.2 < a.2 then b.2 else a.2) ≤
          if false = true then if a.3 < b.3 then b.3 else a.3 else if b.3 < a.3 then b.3 else a.3)),
    [], []) =
  r) := by kernel_rfl
theorem t22 (a : Span) (b : Span) (r : AV × List Row × List Nat) : (runT Try.prog H (fun f args sto => CT.of (F0 f args sto)) L0 false 22 [AV.agg (encS a), AV.agg (encS b)] [] fun q =>
  q = r) = (TB (decide (a.2 < b.2)) ((goB true, [], []) = r)
  (TB (a.2 == b.2) ((goB (decide (a.1 < b.1)), [], []) = r) ((goB false, [], []) = r))) := by kernel_rfl
theorem t11 (a : List Loc) (b : List Loc) (s : Bool) (r : AV × List Row × List Nat) : (runT Try.prog H (fun f args sto => CT.of (F0 f args sto)) (L11 26 s) false 11
  [AV.sl (List.map encL a), AV.sl (List.map encL b)] [] fun q => q = r) = (TB (!(↑(List.length (List.map encL a)) : Int) == (↑(List.length (List.map encL b)) : Int)) ((goB false, [], []) = r)
  (TB s
    (LoopTo Try.prog H (H 11) 0 (loopOf Try.prog 11 4)
        (mkS 26 [(0, AV.sl (List.map encL a)), (1, AV.sl (List.map encL b)), (5, goI 0)]) (Ex.exit 0, mkS 26 []) ∧
      (goB true, [], []) = r)
    (LoopTo Try.prog H (H 11) 0 (loopOf Try.prog 11 4)
        (mkS 26 [(0, AV.sl (List.map encL a)), (1, AV.sl (List.map encL b)), (5, goI 0)])
        (Ex.ret, mkS 26 [(4, goB false)]) ∧
      (goB false, [], []) = r))) := by kernel_rfl
theorem t11_4 (a : List Loc) (b : List Loc) (i : Nat) (r : Ex × St) : (turnT Try.prog H (fun f args sto => CT.of (F0 f args sto)) L0 false (H 11) 0 (loopOf Try.prog 11 4)
  (mkS 26 [(0, AV.sl (List.map encL a)), (1, AV.sl (List.map encL b)), (5, goI (↑i : Int))]) r) = (TB (decide ((↑i : Int) < (↑(List.length (List.map encL a)) : Int)))
  ((0 ≤ (↑i : Int) ∧
      (List.map encL a)[i]? = some [goI (rdI (rowAt (List.map encL a) i) 0), goI (rdI (rowAt (List.map encL a) i) 1)]) ∧
    (0 ≤ (↑i : Int) ∧
        (List.map encL b)[i]? =
          some [goI (rdI (rowAt (List.map encL b) i) 0), goI (rdI (rowAt (List.map encL b) i) 1)]) ∧
      TB
        (!(rdI (rowAt (List.map encL a) i) 0 == rdI (rowAt (List.map encL b) i) 0 &&
            (rdI (rowAt (List.map encL a) i) 1 == rdI (rowAt (List.map encL b) i) 1 && true)))
        ((Ex.ret, mkS 26 [(4, goB false)]) = r)
        (LoopTo Try.prog H (H 11) 0 (loopOf Try.prog 11 4)
          (mkS 26
            [(0, AV.sl (List.map encL a)), (1, AV.sl (List.map encL b)),
              (5, goI (IntKind.wrap IntKind.i64 ((↑i : Int) + 1)))])
          r))
  ((Ex.exit 0, mkS 26 []) = r)) := by kernel_rfl
theorem t14 (a : List Span) (b : List Span) (s : Bool) (r : AV × List Row × List Nat) : (runT Try.prog H (fun f args sto => CT.of (F0 f args sto)) (L11 26 s) false 14
  [AV.sl (List.map encS a), AV.sl (List.map encS b)] [] fun q => q = r) = (TB (!(↑(List.length (List.map encS a)) : Int) == (↑(List.length (List.map encS b)) : Int)) ((goB false, [], []) = r)
  (TB s
    (LoopTo Try.prog H (H 14) 0 (loopOf Try.prog 14 4)
        (mkS 26 [(0, AV.sl (List.map encS a)), (1, AV.sl (List.map encS b)), (5, goI 0)]) (Ex.exit 0, mkS 26 []) ∧
      (goB true, [], []) = r)
    (LoopTo Try.prog H (H 14) 0 (loopOf Try.prog 14 4)
        (mkS 26 [(0, AV.sl (List.map encS a)), (1, AV.sl (List.map encS b)), (5, goI 0)])
        (Ex.ret, mkS 26 [(4, goB false)]) ∧
      (goB false, [], []) = r))) := by kernel_rfl
theorem t14_4 (a : List Span) (b : List Span) (i : Nat) (r : Ex × St) : (turnT Try.prog H (fun f args sto => CT.of (F0 f args sto)) L0 false (H 14) 0 (loopOf Try.prog 14 4)
  (mkS 26 [(0, AV.sl (List.map encS a)), (1, AV.sl (List.map encS b)), (5, goI (↑i : Int))]) r) = (TB (decide ((↑i : Int) < (↑(List.length (List.map encS a)) : Int)))
  ((0 ≤ (↑i : Int) ∧
      (List.map encS a)[i]? =
        some
          [goI (rdI (rowAt (List.map encS a) i) 0), goI (rdI (rowAt (List.map encS a) i) 1),
            goI (rdI (rowAt (List.map encS a) i) 2), goB (rdB (rowAt (List.map encS a) i) 3)]) ∧
    (0 ≤ (↑i : Int) ∧
        (List.map encS b)[i]? =
          some
            [goI (rdI (rowAt (List.map encS b) i) 0), goI (rdI (rowAt (List.map encS b) i) 1),
              goI (rdI (rowAt (List.map encS b) i) 2), goB (rdB (rowAt (List.map encS b) i) 3)]) ∧
      TB
        (!(rdI (rowAt (List.map encS a) i) 0 == rdI (rowAt (List.map encS b) i) 0 &&
            (rdI (rowAt (List.map encS a) i) 1 == rdI (rowAt (List.map encS b) i) 1 &&
              (rdI (rowAt (List.map encS a) i) 2 == rdI (rowAt (List.map encS b) i) 2 &&
                (rdB (rowAt (List.map encS a) i) 3 == rdB (rowAt (List.map encS b) i) 3 && true)))))
        ((Ex.ret, mkS 26 [(4, goB false)]) = r)
        (LoopTo Try.prog H (H 14) 0 (loopOf Try.prog 14 4)
          (mkS 26
            [(0, AV.sl (List.map encS a)), (1, AV.sl (List.map encS b)),
              (5, goI (IntKind.wrap IntKind.i64 ((↑i : Int) + 1)))])
          r))
  ((Ex.exit 0, mkS 26 []) = r)) := by kernel_rfl
theorem t28 (l : List Int) (x : Int) (v : Int) (b : Bool) (r : AV × List Row × List Nat) : (runT Try.prog H (fun f args sto => CT.of (F0 f args sto)) (L28 19 v b) false 28 [AV.sl (List.map encI l), goI x] []
  fun q => q = r) = (TB b
  (LoopTo Try.prog H (H 28) 0 (loopOf Try.prog 28 2)
      (mkS 19 [(0, AV.sl (List.map encI l)), (1, goI x), (7, goI (↑(List.length (List.map encI l)) : Int)), (8, goI 0)])
      (Ex.ret, mkS 19 [(4, goI v)]) ∧
    (goI v, [], []) = r)
  (LoopTo Try.prog H (H 28) 0 (loopOf Try.prog 28 2)
      (mkS 19 [(0, AV.sl (List.map encI l)), (1, goI x), (7, goI (↑(List.length (List.map encI l)) : Int)), (8, goI 0)])
      (Ex.exit 0, mkS 19 []) ∧
    (goI (-1), [], []) = r)) := by kernel_rfl
theorem t28_2 (l : List Int) (x : Int) (i : Nat) (r : Ex × St) : (turnT Try.prog H (fun f args sto => CT.of (F0 f args sto)) L0 false (H 28) 0 (loopOf Try.prog 28 2)
  (mkS 19 [(0, AV.sl (List.map encI l)), (1, goI x), (7, goI (↑(List.length l) : Int)), (8, goI (↑i : Int))]) r) = (TB (decide ((↑i : Int) < (↑(List.length l) : Int)))
  ((0 ≤ (↑i : Int) ∧ (List.map encI l)[i]? = some [goI (rdI (rowAt (List.map encI l) i) 0)]) ∧
    TB (x == rdI (rowAt (List.map encI l) i) 0) ((Ex.ret, mkS 19 [(4, goI (↑i : Int))]) = r)
      (LoopTo Try.prog H (H 28) 0 (loopOf Try.prog 28 2)
        (mkS 19
          [(0, AV.sl (List.map encI l)), (1, goI x), (7, goI (↑(List.length l) : Int)),
            (8, goI (IntKind.wrap IntKind.i64 ((↑i : Int) + 1)))])
        r))
  ((Ex.exit 0, mkS 19 []) = r)) := by kernel_rfl
theorem t29 (l : List Span) (hs : List Loc) (rs : List Int) (i : Int) (k : Int) (r : AV × List Row × List Nat) : (runT Try.prog H (fun f args sto => CT.of (F0 f args sto)) L0 false 29 [AV.pt 0 0 0, goI i, goI k]
  [Row.box [AV.sl (List.map encS l), AV.os 1 0 (List.length hs), AV.os 2 0 (List.length rs)],
    Row.arr 2 (List.map encL hs), Row.arr 1 (List.map encI rs)]
  fun q => q = r) = ((0 ≤ i ∧
    (List.map encS l)[Int.toNat i]? =
      some
        [goI (rdI (rowAt (List.map encS l) (Int.toNat i)) 0), goI (rdI (rowAt (List.map encS l) (Int.toNat i)) 1),
          goI (rdI (rowAt (List.map encS l) (Int.toNat i)) 2), goB (rdB (rowAt (List.map encS l) (Int.toNat i)) 3)]) ∧
  (0 ≤ k ∧
      (List.map encS l)[Int.toNat k]? =
        some
          [goI (rdI (rowAt (List.map encS l) (Int.toNat k)) 0), goI (rdI (rowAt (List.map encS l) (Int.toNat k)) 1),
            goI (rdI (rowAt (List.map encS l) (Int.toNat k)) 2), goB (rdB (rowAt (List.map encS l) (Int.toNat k)) 3)]) ∧
    TB (decide (rdI (rowAt (List.map encS l) (Int.toNat i)) 2 > rdI (rowAt (List.map encS l) (Int.toNat k)) 2))
      ((goB true,
          [Row.box [AV.sl (List.map encS l), AV.os 1 0 (List.length hs), AV.os 2 0 (List.length rs)],
            Row.arr 2 (List.map encL hs), Row.arr 1 (List.map encI rs)],
          []) =
        r)
      (TB (rdI (rowAt (List.map encS l) (Int.toNat i)) 2 == rdI (rowAt (List.map encS l) (Int.toNat k)) 2)
        ((goB (decide (rdI (rowAt (List.map encS l) (Int.toNat i)) 0 > rdI (rowAt (List.map encS l) (Int.toNat k)) 0)),
            [Row.box [AV.sl (List.map encS l), AV.os 1 0 (List.length hs), AV.os 2 0 (List.length rs)],
              Row.arr 2 (List.map encL hs), Row.arr 1 (List.map encI rs)],
            []) =
          r)
        ((goB false,
            [Row.box [AV.sl (List.map encS l), AV.os 1 0 (List.length hs), AV.os 2 0 (List.length rs)],
              Row.arr 2 (List.map encL hs), Row.arr 1 (List.map encI rs)],
            []) =
          r))) := by kernel_rfl
theorem t26 (l : List Span) (hs : List Loc) (rs : List Int) (p : Int) (os : List (List AV)) (r : AV × List Row × List Nat) : (runT Try.prog H (fun f args sto => CT.of (F0 f args sto))
  (fun id st =>
    LT.is (Ex.exit 0)
      (mkS 37 []
        [Row.box [AV.sl (List.map encS l), AV.os 1 0 (List.length hs), AV.os 2 0 (List.length rs)],
          Row.arr 2 (List.map encL hs), Row.arr 1 os]))
  false 26 [AV.pt 0 0 0, goI p]
  [Row.box [AV.sl (List.map encS l), AV.os 1 0 (List.length hs), AV.os 2 0 (List.length rs)],
    Row.arr 2 (List.map encL hs), Row.arr 1 (List.map encI rs)]
  fun q => q = r) = (LoopTo Try.prog H (H 26) 3 (loopOf Try.prog 26 1)
    (mkS 37
      [(0, AV.pt 0 0 0), (1, goI p), (9, AV.os 2 0 (List.length rs)), (10, goI (↑(List.length rs) : Int)), (11, goI 0)]
      [Row.box [AV.sl (List.map encS l), AV.os 1 0 (List.length hs), AV.os 2 0 (List.length rs)],
        Row.arr 2 (List.map encL hs), Row.arr 1 (List.map encI rs)])
    (Ex.exit 0,
      mkS 37 []
        [Row.box [AV.sl (List.map encS l), AV.os 1 0 (List.length hs), AV.os 2 0 (List.length rs)],
          Row.arr 2 (List.map encL hs), Row.arr 1 os]) ∧
  (AV.tup [],
      [Row.box [AV.sl (List.map encS l), AV.os 1 0 (List.length hs), AV.os 2 0 (List.length rs)],
        Row.arr 2 (List.map encL hs), Row.arr 1 os],
      []) =
    r) := by kernel_rfl
theorem t26_1 (l : List Span) (hs : List Loc) (n : Nat) (p : Int) (os : List (List AV)) (i : Nat) (r : Ex × St) : (turnT Try.prog H (fun f args sto => CT.of (F0 f args sto)) L0 false (H 26) 3 (loopOf Try.prog 26 1)
  (mkS 37 [(0, AV.pt 0 0 0), (1, goI p), (9, AV.os 2 0 n), (10, goI (↑n : Int)), (11, goI (↑i : Int))]
    [Row.box [AV.sl (List.map encS l), AV.os 1 0 (List.length hs), AV.os 2 0 n], Row.arr 2 (List.map encL hs),
      Row.arr 1 os])
  r) = (TB (decide ((↑i : Int) < (↑n : Int)))
  ((0 ≤ (↑i : Int) ∧ (↑i : Int) < (↑n : Int) ∧ 0 + i < List.length os) ∧
    cutAt 1 0 os[0 + i]? = some [goI (rdI (rowAt os (0 + i)) 0)] ∧
      TB (decide (rdI (rowAt os (0 + i)) 0 ≥ 0))
        ((0 ≤ rdI (rowAt os (0 + i)) 0 ∧
            (List.map encS l)[Int.toNat (rdI (rowAt os (0 + i)) 0)]? =
              some
                [goI (rdI (rowAt (List.map encS l) (Int.toNat (rdI (rowAt os (0 + i)) 0))) 0),
                  goI (rdI (rowAt (List.map encS l) (Int.toNat (rdI (rowAt os (0 + i)) 0))) 1),
                  goI (rdI (rowAt (List.map encS l) (Int.toNat (rdI (rowAt os (0 + i)) 0))) 2),
                  goB (rdB (rowAt (List.map encS l) (Int.toNat (rdI (rowAt os (0 + i)) 0))) 3)]) ∧
          TB (decide (rdI (rowAt (List.map encS l) (Int.toNat (rdI (rowAt os (0 + i)) 0))) 2 < p))
            ((0 ≤ (↑i : Int) ∧ (↑i : Int) < (↑n : Int) ∧ 0 + i < List.length os) ∧
              Option.map List.length os[0 + i]? = some 1 ∧
                LoopTo Try.prog H (H 26) 3 (loopOf Try.prog 26 1)
                  (mkS 37
                    [(0, AV.pt 0 0 0), (1, goI p), (9, AV.os 2 0 n), (10, goI (↑n : Int)),
                      (11, goI (IntKind.wrap IntKind.i64 ((↑i : Int) + 1)))]
                    [Row.box [AV.sl (List.map encS l), AV.os 1 0 (List.length hs), AV.os 2 0 n],
                      Row.arr 2 (List.map encL hs), Row.arr 1 (List.set os (0 + i) [goI (-1)])])
                  r)
            (LoopTo Try.prog H (H 26) 3 (loopOf Try.prog 26 1)
              (mkS 37
                [(0, AV.pt 0 0 0), (1, goI p), (9, AV.os 2 0 n), (10, goI (↑n : Int)),
                  (11, goI (IntKind.wrap IntKind.i64 ((↑i : Int) + 1)))]
                [Row.box [AV.sl (List.map encS l), AV.os 1 0 (List.length hs), AV.os 2 0 n],
                  Row.arr 2 (List.map encL hs), Row.arr 1 os])
              r))
        (LoopTo Try.prog H (H 26) 3 (loopOf Try.prog 26 1)
          (mkS 37
            [(0, AV.pt 0 0 0), (1, goI p), (9, AV.os 2 0 n), (10, goI (↑n : Int)),
              (11, goI (IntKind.wrap IntKind.i64 ((↑i : Int) + 1)))]
            [Row.box [AV.sl (List.map encS l), AV.os 1 0 (List.length hs), AV.os 2 0 n], Row.arr 2 (List.map encL hs),
              Row.arr 1 os])
          r))
  ((Ex.exit 0,
      mkS 37 []
        [Row.box [AV.sl (List.map encS l), AV.os 1 0 (List.length hs), AV.os 2 0 n], Row.arr 2 (List.map encL hs),
          Row.arr 1 os]) =
    r)) := by kernel_rfl
theorem rowS {l : List Span} {i : Nat} (h : i < l.length) : rowAt (l.map encS) i = [goI (U.sp l i).v, goI (U.sp l i).fr, goI (U.sp l i).to, goB (U.sp l i).call] := rowAt_map h
theorem getS {l : List Span} {i : Nat} (h : i < l.length) : (l.map encS)[i]? = some [goI (U.sp l i).v, goI (U.sp l i).fr, goI (U.sp l i).to, goB (U.sp l i).call] := rows_map h
theorem rowL {l : List Loc} {i : Nat} (h : i < l.length) : rowAt (l.map encL) i = [goI (U.lc l i).k, goI (U.lc l i).n] := rowAt_map h
theorem getL {l : List Loc} {i : Nat} (h : i < l.length) : (l.map encL)[i]? = some [goI (U.lc l i).k, goI (U.lc l i).n] := rows_map h
theorem Loc.eq_iff (x y : Loc) : x = y ↔ x.k = y.k ∧ x.n = y.n := by cases x; cases y; simp
theorem Loc.beq (x y : Loc) : (x.k == y.k && x.n == y.n) = decide (x = y) := by rw [Bool.eq_iff_iff]; simp [Loc.eq_iff]
theorem Span.eq_iff (x y : Span) : x = y ↔ x.v = y.v ∧ x.fr = y.fr ∧ x.to = y.to ∧ x.call = y.call := by cases x; cases y; simp
theorem Span.beq (x y : Span) : (x.v == y.v && (x.fr == y.fr && (x.to == y.to && (x.call == y.call)))) = decide (x = y) := by rw [Bool.eq_iff_iff]; simp [Span.eq_iff]
theorem wf23 (a b : Span) : Wf Try.prog H 23 [.agg (encS a), .agg (encS b)] [] = some (goB (U.meet a b), [], []) := by
  refine runK (t23 a b _) ?_
  unfold U.meet
  by_cases h1 : a.fr ≤ a.to
  · rw [decide_eq_true h1]
    by_cases h2 : b.fr ≤ b.to
    · rw [decide_eq_true h2]
      by_cases h3 : a.fr ≤ b.to
      · rw [decide_eq_true h3]; exact rfl
      · rw [decide_eq_false h3]; exact rfl
    · rw [decide_eq_false h2]; exact rfl
  · rw [decide_eq_false h1]; exact rfl
theorem wf24 (a b : Span) : Wf Try.prog H 24 [.agg (encS a), .agg (encS b)] [] = some (goB (U.meet a b), [], []) := by
  refine runK (t24 a b _) ?_
  simp only [Bool.false_eq_true, if_false, if_true, Prod.mk.injEq, goB_inj, and_true]
  unfold U.meet
  rw [Bool.eq_iff_iff]
  simp only [decide_eq_true_eq, Bool.and_eq_true]
  split <;> split <;> omega
namespace U
def rise (a b : Span) : Bool := decide (a.fr < b.fr) || (a.fr == b.fr && decide (a.v < b.v))
def sameL (a b : List Loc) (i : Nat) : Bool := allFrom (fun j => decide (lc a j = lc b j)) i a.length
def sameS (a b : List Span) (i : Nat) : Bool := allFrom (fun j => decide (sp a j = sp b j)) i a.length
def idxI (l : List Int) (x : Int) : Int := firstOf (fun j => decide (nt l j = x)) l.length 0
def far (l : List Span) (i k : Nat) : Bool := decide ((sp l i).to > (sp l k).to) || ((sp l i).to == (sp l k).to && decide ((sp l i).v > (sp l k).v))
def expire1 (l : List Span) (p k : Int) : Int := if 0 ≤ k ∧ (sp l k.toNat).to < p then -1 else k
def expire (l : List Span) (p : Int) (rs : List Int) : List Int := rs.map (expire1 l p)
end U
theorem wf22 (a b : Span) : Wf Try.prog H 22 [.agg (encS a), .agg (encS b)] [] = some (goB (U.rise a b), [], []) := by
  refine runK (t22 a b _) ?_
  unfold U.rise
  by_cases h1 : a.fr < b.fr
  · rw [decide_eq_true h1]; exact rfl
  · rw [decide_eq_false h1]
    cases h2 : a.fr == b.fr <;> exact rfl
theorem loop11_4 (a b : List Loc) (hl : a.length < 1000000) (hab : a.length = b.length) : ∀ (d i : Nat), i + d = a.length →
    LoopTo Try.prog H (H 11) 0 (loopOf Try.prog 11 4) (mkS 26 [(0, .sl (a.map encL)), (1, .sl (b.map encL)), (5, goI i)]) (if U.sameL a b i then (.exit 0, mkS 26 []) else (.ret, mkS 26 [(4, goB false)]))
  | 0, i, hd => by
    refine turnK (t11_4 a b i _) ?_
    have hi : i = a.length := by omega
    subst hi
    rw [List.length_map, decide_eq_false (by omega), if_pos (by simp [U.sameL, allFrom_end])]
    exact rfl
  | d + 1, i, hd => by
    refine turnK (t11_4 a b i _) ?_
    have hi : i < a.length := by omega
    have hib : i < b.length := by omega
    have ih := loop11_4 a b hl hab d (i + 1) (by omega)
    have hs : U.sameL a b i = (decide (U.lc a i = U.lc b i) && U.sameL a b (i + 1)) := allFrom_step _ hi
    rw [List.length_map, decide_eq_true (by omega), wrapS hi hl, rowL hi, getL hi, rowL hib, getL hib, hs]
    simp only [rdI, List.getD_cons_zero, List.getD_cons_succ, int_goI, Bool.and_true, Loc.beq]
    refine ⟨⟨by omega, by trivial⟩, ⟨by omega, by trivial⟩, ?_⟩
    cases decide (U.lc a i = U.lc b i) with
    | true => exact ih
    | false => exact rfl
theorem wf11 (a b : List Loc) (hl : a.length < 1000000) : Wf Try.prog H 11 [.sl (a.map encL), .sl (b.map encL)] [] = some (goB (decide (a.length = b.length) && U.sameL a b 0), [], []) := by
  refine runK (t11 a b (U.sameL a b 0) _) ?_
  rw [List.length_map, List.length_map]
  by_cases hab : a.length = b.length
  · have h := loop11_4 a b hl hab a.length 0 (by omega)
    rw [hab, beq_self_eq_true, decide_eq_true rfl]
    cases h1 : U.sameL a b 0 with
    | true => rw [h1] at h; exact ⟨h, rfl⟩
    | false => rw [h1] at h; exact ⟨h, rfl⟩
  · have h2 : ((a.length : Int) == (b.length : Int)) = false := beq_eq_false_iff_ne.2 (by omega)
    rw [decide_eq_false hab, h2]
    exact rfl
theorem loop14_4 (a b : List Span) (hl : a.length < 1000000) (hab : a.length = b.length) : ∀ (d i : Nat), i + d = a.length →
    LoopTo Try.prog H (H 14) 0 (loopOf Try.prog 14 4) (mkS 26 [(0, .sl (a.map encS)), (1, .sl (b.map encS)), (5, goI i)]) (if U.sameS a b i then (.exit 0, mkS 26 []) else (.ret, mkS 26 [(4, goB false)]))
  | 0, i, hd => by
    refine turnK (t14_4 a b i _) ?_
    have hi : i = a.length := by omega
    subst hi
    rw [List.length_map, decide_eq_false (by omega), if_pos (by simp [U.sameS, allFrom_end])]
    exact rfl
  | d + 1, i, hd => by
    refine turnK (t14_4 a b i _) ?_
    have hi : i < a.length := by omega
    have hib : i < b.length := by omega
    have ih := loop14_4 a b hl hab d (i + 1) (by omega)
    have hs : U.sameS a b i = (decide (U.sp a i = U.sp b i) && U.sameS a b (i + 1)) := allFrom_step _ hi
    rw [List.length_map, decide_eq_true (by omega), wrapS hi hl, rowS hi, getS hi, rowS hib, getS hib, hs]
    simp only [rdI, rdB, List.getD_cons_zero, List.getD_cons_succ, int_goI, bool_goB, Bool.and_true, Span.beq]
    refine ⟨⟨by omega, by trivial⟩, ⟨by omega, by trivial⟩, ?_⟩
    cases decide (U.sp a i = U.sp b i) with
    | true => exact ih
    | false => exact rfl
theorem wf14 (a b : List Span) (hl : a.length < 1000000) : Wf Try.prog H 14 [.sl (a.map encS), .sl (b.map encS)] [] = some (goB (decide (a.length = b.length) && U.sameS a b 0), [], []) := by
  refine runK (t14 a b (U.sameS a b 0) _) ?_
  rw [List.length_map, List.length_map]
  by_cases hab : a.length = b.length
  · have h := loop14_4 a b hl hab a.length 0 (by omega)
    rw [hab, beq_self_eq_true, decide_eq_true rfl]
    cases h1 : U.sameS a b 0 with
    | true => rw [h1] at h; exact ⟨h, rfl⟩
    | false => rw [h1] at h; exact ⟨h, rfl⟩
  · have h2 : ((a.length : Int) == (b.length : Int)) = false := beq_eq_false_iff_ne.2 (by omega)
    rw [decide_eq_false hab, h2]
    exact rfl
theorem selfL (a : List Loc) : (decide (a.length = a.length) && U.sameL a a 0) = true := by simp [U.sameL, allFrom_iff]
theorem selfS (a : List Span) : (decide (a.length = a.length) && U.sameS a a 0) = true := by simp [U.sameS, allFrom_iff]
theorem loop28_2 (l : List Int) (x : Int) (hl : l.length < 1000000) : ∀ (d i : Nat), i + d = l.length →
    LoopTo Try.prog H (H 28) 0 (loopOf Try.prog 28 2) (mkS 19 [(0, .sl (l.map encI)), (1, goI x), (7, goI l.length), (8, goI i)])
      (if 0 ≤ U.firstOf (fun j => decide (U.nt l j = x)) d i then (.ret, mkS 19 [(4, goI (U.firstOf (fun j => decide (U.nt l j = x)) d i))]) else (.exit 0, mkS 19 []))
  | 0, i, hd => by
    refine turnK (t28_2 l x i _) ?_
    rw [decide_eq_false (by omega)]
    exact (if_neg (by simp [U.firstOf])).symm
  | d + 1, i, hd => by
    refine turnK (t28_2 l x i _) ?_
    have hi : i < l.length := by omega
    have ih := loop28_2 l x hl d (i + 1) (by omega)
    rw [decide_eq_true (by omega), wrapS hi hl, rowI hi, getI hi]
    simp only [rdI, List.getD_cons_zero, int_goI]
    refine ⟨⟨by omega, by trivial⟩, ?_⟩
    by_cases h : U.nt l i = x
    · have e : U.firstOf (fun j => decide (U.nt l j = x)) (d + 1) i = (i : Int) := by rw [firstOf_step]; exact if_pos (decide_eq_true h)
      rw [e, if_pos (by omega), beq_iff_eq.2 h.symm]; exact rfl
    · have e : U.firstOf (fun j => decide (U.nt l j = x)) (d + 1) i = U.firstOf (fun j => decide (U.nt l j = x)) d (i + 1) := by rw [firstOf_step]; exact if_neg (by simpa using h)
      rw [e, beq_eq_false_iff_ne.2 (fun q => h q.symm)]; exact ih
theorem wf28 (l : List Int) (x : Int) (hl : l.length < 1000000) : Wf Try.prog H 28 [.sl (l.map encI), goI x] [] = some (goI (U.idxI l x), [], []) := by
  refine runK (t28 l x (U.idxI l x) (decide (0 ≤ U.idxI l x)) _) ?_
  have h := loop28_2 l x hl l.length 0 (by omega)
  rw [List.length_map]
  rcases firstOf_neg (fun j => decide (U.nt l j = x)) l.length 0 with hp | hp
  · rw [if_pos hp] at h
    rw [decide_eq_true (show 0 ≤ U.idxI l x from hp)]
    exact ⟨h, rfl⟩
  · rw [if_neg (by omega)] at h
    rw [show U.idxI l x = -1 from hp]
    exact ⟨h, rfl⟩
/-- The scanner's memory. -/
def scn (l : List Span) (hs : List Loc) (rs : List Int) : List Row := [.box [.sl (l.map encS), .os 1 0 hs.length, .os 2 0 rs.length], .arr 2 (hs.map encL), .arr 1 (rs.map encI)]
theorem wf29 (l : List Span) (hs : List Loc) (rs : List Int) (i k : Nat) (hi : i < l.length) (hk : k < l.length) : Wf Try.prog H 29 [.pt 0 0 0, goI i, goI k] (scn l hs rs) = some (goB (U.far l i k), scn l hs rs, []) := by
  refine runK (t29 l hs rs i k _) ?_
  rw [Int.toNat_natCast, Int.toNat_natCast, rowS hi, getS hi, rowS hk, getS hk]
  simp only [rdI, rdB, List.getD_cons_zero, List.getD_cons_succ, int_goI, bool_goB]
  refine ⟨⟨by omega, by trivial⟩, ⟨by omega, by trivial⟩, ?_⟩
  unfold U.far
  by_cases h1 : (U.sp l i).to > (U.sp l k).to
  · rw [decide_eq_true h1]; exact rfl
  · rw [decide_eq_false h1]
    cases h2 : (U.sp l i).to == (U.sp l k).to <;> exact rfl
/-- Who has registers. -/
def RegsOk (n : Nat) (rs : List Int) : Prop := ∀ k ∈ rs, k = -1 ∨ (0 ≤ k ∧ k < n)
theorem nt_mem {rs : List Int} {i : Nat} (h : i < rs.length) : U.nt rs i ∈ rs := by
  unfold U.nt; rw [List.getD_eq_getElem?_getD, List.getElem?_eq_getElem h]; exact List.getElem_mem h
theorem loop26_1 (l : List Span) (hs : List Loc) (rs : List Int) (p : Int) (hr : RegsOk l.length rs) (hl : rs.length < 1000000) : ∀ (d i : Nat), i + d = rs.length →
    LoopTo Try.prog H (H 26) 3 (loopOf Try.prog 26 1) (mkS 37 [(0, .pt 0 0 0), (1, goI p), (9, .os 2 0 rs.length), (10, goI rs.length), (11, goI i)] [.box [.sl (l.map encS), .os 1 0 hs.length, .os 2 0 rs.length], .arr 2 (hs.map encL), .arr 1 ((U.expire l p (rs.take i) ++ rs.drop i).map encI)])
      (.exit 0, mkS 37 [] [.box [.sl (l.map encS), .os 1 0 hs.length, .os 2 0 rs.length], .arr 2 (hs.map encL), .arr 1 ((U.expire l p rs).map encI)])
  | 0, i, hd => by
    refine turnK (t26_1 l hs rs.length p _ i _) ?_
    have hi : i = rs.length := by omega
    subst hi
    rw [decide_eq_false (by omega), List.take_length, List.drop_length, List.append_nil]
    exact rfl
  | d + 1, i, hd => by
    have hi : i < rs.length := by omega
    have ih := loop26_1 l hs rs p hr hl d (i + 1) (by omega)
    refine turnK (t26_1 l hs rs.length p _ i _) ?_
    have hlen : i < (U.expire l p (rs.take i) ++ rs.drop i).length := by simp [U.expire]; omega
    have hpl : (U.expire l p (rs.take i)).length = i := by simp [U.expire]; omega
    have hnt : U.nt (U.expire l p (rs.take i) ++ rs.drop i) i = U.nt rs i := by
      unfold U.nt
      rw [List.getD_eq_getElem?_getD, List.getElem?_append_right (by omega), hpl, Nat.sub_self, List.getElem?_drop, Nat.add_zero, List.getD_eq_getElem?_getD]
    have hset : ∀ v : Int, (U.expire l p (rs.take i) ++ rs.drop i).set i v = U.expire l p (rs.take i) ++ v :: rs.drop (i + 1) := fun v => by
      rw [List.set_append_right _ _ (by omega), hpl, Nat.sub_self, List.drop_eq_getElem_cons hi]; rfl
    have hnext : U.expire l p (rs.take (i + 1)) ++ rs.drop (i + 1) = U.expire l p (rs.take i) ++ U.expire1 l p (U.nt rs i) :: rs.drop (i + 1) := by
      have e : rs.take (i + 1) = rs.take i ++ [U.nt rs i] := by
        rw [List.take_add_one, List.getElem?_eq_getElem hi]; unfold U.nt; rw [List.getD_eq_getElem?_getD, List.getElem?_eq_getElem hi]; rfl
      unfold U.expire
      rw [e, List.map_append, List.append_assoc]; rfl
    have hsame : U.expire l p (rs.take i) ++ rs.drop i = U.expire l p (rs.take i) ++ U.nt rs i :: rs.drop (i + 1) := by
      rw [List.drop_eq_getElem_cons hi]; unfold U.nt; rw [List.getD_eq_getElem?_getD, List.getElem?_eq_getElem hi]; rfl
    rw [hnext] at ih
    rw [decide_eq_true (by omega), wrapS hi hl, Nat.zero_add, rowI hlen, getI hlen, set_mapI, hset, hnt]
    simp only [rdI, List.getD_cons_zero, int_goI]
    refine ⟨⟨by omega, by omega, by rw [List.length_map]; exact hlen⟩, by rfl, ?_⟩
    have hk := hr _ (nt_mem hi)
    generalize U.nt rs i = k at hk ih hsame
    by_cases h0 : 0 ≤ k
    · obtain ⟨w, rfl⟩ : ∃ w : Nat, k = w := ⟨k.toNat, by omega⟩
      have hw : w < l.length := by omega
      rw [decide_eq_true (show ((w : Nat) : Int) ≥ 0 by omega), Int.toNat_natCast, rowS hw, getS hw]
      simp only [List.getD_cons_zero, List.getD_cons_succ, int_goI]
      refine ⟨⟨by omega, by trivial⟩, ?_⟩
      by_cases h1 : (U.sp l w).to < p
      · have e : U.expire1 l p (w : Int) = -1 := by unfold U.expire1; rw [Int.toNat_natCast, if_pos ⟨h0, h1⟩]
        rw [e] at ih
        rw [decide_eq_true h1]
        exact ⟨⟨by omega, by omega, by rw [List.length_map]; exact hlen⟩, by rfl, ih⟩
      · have e : U.expire1 l p (w : Int) = w := by unfold U.expire1; rw [Int.toNat_natCast, if_neg (fun q => h1 q.2)]
        rw [e] at ih
        rw [decide_eq_false h1, hsame]
        exact ih
    · have e : U.expire1 l p k = k := by unfold U.expire1; rw [if_neg (fun q => h0 q.1)]
      rw [e] at ih
      rw [decide_eq_false h0, hsame]
      exact ih
theorem wf26 (l : List Span) (hs : List Loc) (rs : List Int) (p : Int) (hr : RegsOk l.length rs) (hl : rs.length < 1000000) : Wf Try.prog H 26 [.pt 0 0 0, goI p] (scn l hs rs) = some (.tup [], scn l hs (U.expire l p rs), []) := by
  have h := loop26_1 l hs rs p hr hl rs.length 0 (by omega)
  have e0 : U.expire l p (rs.take 0) ++ rs.drop 0 = rs := by simp [U.expire]
  rw [e0] at h
  refine runK (t26 l hs rs p ((U.expire l p rs).map encI) _) ⟨h, ?_⟩
  have e : (U.expire l p rs).length = rs.length := by simp [U.expire]
  unfold scn
  rw [e]
end Go.Proofs.Ythbkemkjkpaoaac.E
