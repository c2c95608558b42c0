/- Functions, by what the evaluator asks; the theorems t.. were printed by show.txt, a program of this session. -/
import Derived.Test.Ytnmnaomfohlmcaa09d
set_option linter.unusedVariables false
set_option linter.unusedSimpArgs false
set_option maxRecDepth 100000
namespace Go.Proofs.Ytnmnaomfohlmcaa.E
open Go
def hp (hs : List Obj) : AV := .agg [.sl (hs.map encO)]
def bx (hs : List Obj) : List Row := [.box [.sl (hs.map encO)]]
def bx2 (hs : List Obj) : List Row := [.box [.clo 29 [.pt 1 0 0]], .box [.sl (hs.map encO)]]
namespace U
def ob (hs : List Obj) (i : Nat) : Obj := hs.getD i default
def bad (n : Nat) (r : Int) : Bool := decide (r < 0) || decide (r > n)
def badL (n : Nat) (rs : List Int) : Int := firstOf (fun j => bad n (nt rs j)) rs.length 0
def badR (n : Nat) (rs : List (List AV)) : Int := badL n (rs.map fun r => rdI r 0)
end U
def F40 (n : Nat) : CallT := fun f args sto => match f, args with
 | 29, [.v (.int _ x), _] => .is (goB (U.bad n x), sto, [])
 | _, _ => .no
def L40 (hs : List Obj) (v : Int) (b : Bool) : Nat → St → LT := fun id st => .by b (.is .ret (mkS 19 [(4, goI v)] (bx hs))) (.is (.exit 0) (mkS 19 [] (bx hs)))
def F32 (n : Nat) : CallT := fun f args sto => match f, args with
 | 40, [.sl l, _] => .is (goI (U.badR n l), sto, [])
 | _, _ => .no
def F31 (n : Nat) : CallT := fun f args sto => match f, args with
 | 32, [.sl l, _] => .is (goB (decide (U.badR n l ≥ 0)), sto, [])
 | _, _ => .no
namespace U
def badO (n : Nat) (a b : List (List AV)) : Bool := decide ((a.length : Int) > 8) || (decide ((b.length : Int) > 8) || decide (badR n a ≥ 0))
def badOb (n : Nat) (o : Obj) : Bool := badO n (o.refs.map encI) (o.ints.map encI)
def badH (n : Nat) (l : List Obj) : Int := firstOf (fun j => badOb n (ob l j)) l.length 0
def decO (xs : List (List AV)) : List Obj := xs.map fun r => ⟨(rdL r 0).map fun r => rdI r 0, (rdL r 1).map fun r => rdI r 0⟩
def badHR (n : Nat) (l : List (List AV)) : Int := badH n (decO l)
end U
def F39 (n : Nat) : CallT := fun f args sto => match f, args with
 | 31, [.agg [.sl a, .sl b], _] => .is (goB (U.badO n a b), sto, [])
 | _, _ => .no
def L39 (hs : List Obj) (v : Int) (b : Bool) : Nat → St → LT := fun id st => .by b (.is .ret (mkS 19 [(4, goI v)] (bx2 hs))) (.is (.exit 0) (mkS 19 [] (bx2 hs)))
def F30 (n : Nat) : CallT := fun f args sto => match f, args with
 | 39, [.sl l, _] => .is (goI (U.badHR n l), sto, [])
 | 30, [.sl l, _] => .is (goB (decide (U.badHR n l ≥ 0)), sto, [])
 | _, _ => .no

theorem t29 (hs : List Obj) (x : Int) (r : AV × List Row × List Nat) : (runT Try.prog H (fun f args sto => CT.of (F0 f args sto)) L0 false 29 [goI x, AV.pt 0 0 0] (bx hs) fun q => q = r) = (TB (decide (x < 0)) ((goB true, [Row.box [AV.sl (List.map encO hs)]], []) = r)
  ((goB (decide (x > (↑(List.length (List.map encO hs)) : Int))), [Row.box [AV.sl (List.map encO hs)]], []) = r)) := by kernel_rfl
theorem t40 (hs : List Obj) (l : List Int) (v : Int) (b : Bool) (r : AV × List Row × List Nat) : (runT Try.prog H (F40 (List.length hs)) (L40 hs v b) false 40 [AV.sl (List.map encI l), AV.clo 29 [AV.pt 0 0 0]] (bx hs)
  fun q => q = r) = (TB b
  (LoopTo Try.prog H (H 40) 1 (loopOf Try.prog 40 2)
      (mkS 19
        [(0, AV.sl (List.map encI l)), (1, AV.clo 29 [AV.pt 0 0 0]), (7, goI (↑(List.length (List.map encI l)) : Int)),
          (8, goI 0)]
        [Row.box [AV.sl (List.map encO hs)]])
      (Ex.ret, mkS 19 [(4, goI v)] [Row.box [AV.sl (List.map encO hs)]]) ∧
    (goI v, [Row.box [AV.sl (List.map encO hs)]], []) = r)
  (LoopTo Try.prog H (H 40) 1 (loopOf Try.prog 40 2)
      (mkS 19
        [(0, AV.sl (List.map encI l)), (1, AV.clo 29 [AV.pt 0 0 0]), (7, goI (↑(List.length (List.map encI l)) : Int)),
          (8, goI 0)]
        [Row.box [AV.sl (List.map encO hs)]])
      (Ex.exit 0, mkS 19 [] [Row.box [AV.sl (List.map encO hs)]]) ∧
    (goI (-1), [Row.box [AV.sl (List.map encO hs)]], []) = r)) := by kernel_rfl
theorem t40_2 (hs : List Obj) (l : List Int) (i : Nat) (r : Ex × St) : (turnT Try.prog H (F40 (List.length hs)) L0 false (H 40) 1 (loopOf Try.prog 40 2)
  (mkS 19
    [(0, AV.sl (List.map encI l)), (1, AV.clo 29 [AV.pt 0 0 0]), (7, goI (↑(List.length l) : Int)), (8, goI (↑i : Int))]
    (bx hs))
  r) = (TB (decide ((↑i : Int) < (↑(List.length l) : Int)))
  ((0 ≤ (↑i : Int) ∧ (List.map encI l)[i]? = some [goI (rdI (rowAt (List.map encI l) i) 0)]) ∧
    Wf Try.prog H 29 [goI (rdI (rowAt (List.map encI l) i) 0), AV.pt 0 0 0] [Row.box [AV.sl (List.map encO hs)]] =
        some
          (goB (U.bad (List.length hs) (rdI (rowAt (List.map encI l) i) 0)), [Row.box [AV.sl (List.map encO hs)]], []) ∧
      TB (U.bad (List.length hs) (rdI (rowAt (List.map encI l) i) 0))
        ((Ex.ret, mkS 19 [(4, goI (↑i : Int))] [Row.box [AV.sl (List.map encO hs)]]) = r)
        (LoopTo Try.prog H (H 40) 1 (loopOf Try.prog 40 2)
          (mkS 19
            [(0, AV.sl (List.map encI l)), (1, AV.clo 29 [AV.pt 0 0 0]), (7, goI (↑(List.length l) : Int)),
              (8, goI (IntKind.wrap IntKind.i64 ((↑i : Int) + 1)))]
            [Row.box [AV.sl (List.map encO hs)]])
          r))
  ((Ex.exit 0, mkS 19 [] [Row.box [AV.sl (List.map encO hs)]]) = r)) := by kernel_rfl
theorem t32 (hs : List Obj) (l : List Int) (r : AV × List Row × List Nat) : (runT Try.prog H (F32 (List.length hs)) L0 false 32 [AV.sl (List.map encI l), AV.clo 29 [AV.pt 0 0 0]] (bx hs) fun q =>
  q = r) = (Wf Try.prog H 40 [AV.sl (List.map encI l), AV.clo 29 [AV.pt 0 0 0]] [Row.box [AV.sl (List.map encO hs)]] =
    some (goI (U.badR (List.length hs) (List.map encI l)), [Row.box [AV.sl (List.map encO hs)]], []) ∧
  (goB (decide (U.badR (List.length hs) (List.map encI l) ≥ 0)), [Row.box [AV.sl (List.map encO hs)]], []) = r) := by kernel_rfl
theorem t31 (hs : List Obj) (o : Obj) (r : AV × List Row × List Nat) : (runT Try.prog H (F31 (List.length hs)) L0 false 31 [AV.agg (encO o), AV.pt 0 0 0] (bx2 hs) fun q => q = r) = (TB (decide ((↑(List.length (List.map encI o.1)) : Int) > 8))
  ((goB true, [Row.box [AV.clo 29 [AV.pt 1 0 0]], Row.box [AV.sl (List.map encO hs)]], []) = r)
  (TB (decide ((↑(List.length (List.map encI o.2)) : Int) > 8))
    ((goB true, [Row.box [AV.clo 29 [AV.pt 1 0 0]], Row.box [AV.sl (List.map encO hs)]], []) = r)
    (Wf Try.prog H 32 [AV.sl (List.map encI o.1), AV.clo 29 [AV.pt 0 0 0]] [Row.box [AV.sl (List.map encO hs)]] =
        some
          (goB (decide (U.badR (List.length hs) (List.map encI o.1) ≥ 0)), [Row.box [AV.sl (List.map encO hs)]], []) ∧
      (goB (decide (U.badR (List.length hs) (List.map encI o.1) ≥ 0)),
          [Row.box [AV.clo 29 [AV.pt 1 0 0]], Row.box [AV.sl (List.map encO hs)]], []) =
        r))) := by kernel_rfl
theorem t39 (hs : List Obj) (v : Int) (b : Bool) (r : AV × List Row × List Nat) : (runT Try.prog H (F39 (List.length hs)) (L39 hs v b) false 39 [AV.sl (List.map encO hs), AV.clo 31 [AV.pt 0 0 0]]
  (bx2 hs) fun q => q = r) = (TB b
  (LoopTo Try.prog H (H 39) 2 (loopOf Try.prog 39 2)
      (mkS 19
        [(0, AV.sl (List.map encO hs)), (1, AV.clo 31 [AV.pt 0 0 0]),
          (7, goI (↑(List.length (List.map encO hs)) : Int)), (8, goI 0)]
        [Row.box [AV.clo 29 [AV.pt 1 0 0]], Row.box [AV.sl (List.map encO hs)]])
      (Ex.ret, mkS 19 [(4, goI v)] [Row.box [AV.clo 29 [AV.pt 1 0 0]], Row.box [AV.sl (List.map encO hs)]]) ∧
    (goI v, [Row.box [AV.clo 29 [AV.pt 1 0 0]], Row.box [AV.sl (List.map encO hs)]], []) = r)
  (LoopTo Try.prog H (H 39) 2 (loopOf Try.prog 39 2)
      (mkS 19
        [(0, AV.sl (List.map encO hs)), (1, AV.clo 31 [AV.pt 0 0 0]),
          (7, goI (↑(List.length (List.map encO hs)) : Int)), (8, goI 0)]
        [Row.box [AV.clo 29 [AV.pt 1 0 0]], Row.box [AV.sl (List.map encO hs)]])
      (Ex.exit 0, mkS 19 [] [Row.box [AV.clo 29 [AV.pt 1 0 0]], Row.box [AV.sl (List.map encO hs)]]) ∧
    (goI (-1), [Row.box [AV.clo 29 [AV.pt 1 0 0]], Row.box [AV.sl (List.map encO hs)]], []) = r)) := by kernel_rfl
theorem t39_2 (hs : List Obj) (i : Nat) (r : Ex × St) : (turnT Try.prog H (F39 (List.length hs)) L0 false (H 39) 2 (loopOf Try.prog 39 2)
  (mkS 19
    [(0, AV.sl (List.map encO hs)), (1, AV.clo 31 [AV.pt 0 0 0]), (7, goI (↑(List.length hs) : Int)),
      (8, goI (↑i : Int))]
    (bx2 hs))
  r) = (TB (decide ((↑i : Int) < (↑(List.length hs) : Int)))
  ((0 ≤ (↑i : Int) ∧
      (List.map encO hs)[i]? =
        some [AV.sl (rdL (rowAt (List.map encO hs) i) 0), AV.sl (rdL (rowAt (List.map encO hs) i) 1)]) ∧
    Wf Try.prog H 31
          [AV.agg [AV.sl (rdL (rowAt (List.map encO hs) i) 0), AV.sl (rdL (rowAt (List.map encO hs) i) 1)], AV.pt 0 0 0]
          [Row.box [AV.clo 29 [AV.pt 1 0 0]], Row.box [AV.sl (List.map encO hs)]] =
        some
          (goB (U.badO (List.length hs) (rdL (rowAt (List.map encO hs) i) 0) (rdL (rowAt (List.map encO hs) i) 1)),
            [Row.box [AV.clo 29 [AV.pt 1 0 0]], Row.box [AV.sl (List.map encO hs)]], []) ∧
      TB (U.badO (List.length hs) (rdL (rowAt (List.map encO hs) i) 0) (rdL (rowAt (List.map encO hs) i) 1))
        ((Ex.ret,
            mkS 19 [(4, goI (↑i : Int))] [Row.box [AV.clo 29 [AV.pt 1 0 0]], Row.box [AV.sl (List.map encO hs)]]) =
          r)
        (LoopTo Try.prog H (H 39) 2 (loopOf Try.prog 39 2)
          (mkS 19
            [(0, AV.sl (List.map encO hs)), (1, AV.clo 31 [AV.pt 0 0 0]), (7, goI (↑(List.length hs) : Int)),
              (8, goI (IntKind.wrap IntKind.i64 ((↑i : Int) + 1)))]
            [Row.box [AV.clo 29 [AV.pt 1 0 0]], Row.box [AV.sl (List.map encO hs)]])
          r))
  ((Ex.exit 0, mkS 19 [] [Row.box [AV.clo 29 [AV.pt 1 0 0]], Row.box [AV.sl (List.map encO hs)]]) = r)) := by kernel_rfl
theorem t30 (hs : List Obj) (r : AV × List Row × List Nat) : (runT Try.prog H (F30 (List.length hs)) L0 false 30 [AV.sl (List.map encO hs), AV.clo 31 [AV.pt 0 0 0]] (bx2 hs) fun q =>
  q = r) = (Wf Try.prog H 39 [AV.sl (List.map encO hs), AV.clo 31 [AV.pt 0 0 0]]
      [Row.box [AV.clo 29 [AV.pt 1 0 0]], Row.box [AV.sl (List.map encO hs)]] =
    some
      (goI (U.badHR (List.length hs) (List.map encO hs)),
        [Row.box [AV.clo 29 [AV.pt 1 0 0]], Row.box [AV.sl (List.map encO hs)]], []) ∧
  (goB (decide (U.badHR (List.length hs) (List.map encO hs) ≥ 0)),
      [Row.box [AV.clo 29 [AV.pt 1 0 0]], Row.box [AV.sl (List.map encO hs)]], []) =
    r) := by kernel_rfl
theorem t14 (hs : List Obj) (r : AV × List Row × List Nat) : (runT Try.prog H (F30 (List.length hs)) L0 false 14 [hp hs] [] fun q => q = r) = (Wf Try.prog H 30 [AV.sl (List.map encO hs), AV.clo 31 [AV.pt 0 0 0]]
      [Row.box [AV.clo 29 [AV.pt 1 0 0]], Row.box [AV.sl (List.map encO hs)]] =
    some
      (goB (decide (U.badHR (List.length hs) (List.map encO hs) ≥ 0)),
        [Row.box [AV.clo 29 [AV.pt 1 0 0]], Row.box [AV.sl (List.map encO hs)]], []) ∧
  (goB !decide (U.badHR (List.length hs) (List.map encO hs) ≥ 0), [], []) = r) := by kernel_rfl
theorem wf29 (hs : List Obj) (x : Int) : Wf Try.prog H 29 [goI x, .pt 0 0 0] (bx hs) = some (goB (U.bad hs.length x), bx hs, []) := by
  refine runK (t29 hs x _) ?_
  rw [List.length_map]
  unfold U.bad
  by_cases h : x < 0
  · rw [decide_eq_true h]; exact rfl
  · rw [decide_eq_false h]; exact rfl
theorem decI1 (l : List Int) : (l.map encI).map (fun r => rdI r 0) = l := by
  rw [List.map_map]
  exact (List.map_congr_left (g := id) (fun m _ => rfl)).trans (List.map_id l)
theorem badR_map (n : Nat) (l : List Int) : U.badR n (l.map encI) = U.badL n l := by unfold U.badR; rw [decI1]
theorem loop40_2 (hs : List Obj) (l : List Int) (hl : l.length < 1000000) : ∀ (d i : Nat), i + d = l.length →
    LoopTo Try.prog H (H 40) 1 (loopOf Try.prog 40 2) (mkS 19 [(0, .sl (l.map encI)), (1, .clo 29 [.pt 0 0 0]), (7, goI l.length), (8, goI i)] (bx hs))
      (if 0 ≤ U.firstOf (fun j => U.bad hs.length (U.nt l j)) d i then (.ret, mkS 19 [(4, goI (U.firstOf (fun j => U.bad hs.length (U.nt l j)) d i))] (bx hs)) else (.exit 0, mkS 19 [] (bx hs)))
  | 0, i, hd => by
    refine turnK (t40_2 hs l i _) ?_
    rw [decide_eq_false (by omega)]
    exact (if_neg (by simp [U.firstOf])).symm
  | d + 1, i, hd => by
    have hi : i < l.length := by omega
    have ih := loop40_2 hs l hl d (i + 1) (by omega)
    have h29 := wf29 hs (U.nt l i)
    refine turnK (t40_2 hs l i _) ?_
    rw [decide_eq_true (by omega), wrapS hi hl, rowI hi, getI hi]
    simp only [rdI, List.getD_cons_zero, int_goI]
    refine ⟨⟨by omega, by trivial⟩, h29, ?_⟩
    cases h : U.bad hs.length (U.nt l i) with
    | true =>
      have e : U.firstOf (fun j => U.bad hs.length (U.nt l j)) (d + 1) i = (i : Int) := by rw [firstOf_step]; exact if_pos h
      rw [e, if_pos (by omega)]; exact rfl
    | false =>
      have e : U.firstOf (fun j => U.bad hs.length (U.nt l j)) (d + 1) i = U.firstOf (fun j => U.bad hs.length (U.nt l j)) d (i + 1) := by rw [firstOf_step]; exact if_neg (by rw [h]; simp)
      rw [e]; exact ih
theorem wf40 (hs : List Obj) (l : List Int) (hl : l.length < 1000000) : Wf Try.prog H 40 [.sl (l.map encI), .clo 29 [.pt 0 0 0]] (bx hs) = some (goI (U.badL hs.length l), bx hs, []) := by
  refine runK (t40 hs l (U.badL hs.length l) (decide (0 ≤ U.badL hs.length l)) _) ?_
  have h := loop40_2 hs l hl l.length 0 (by omega)
  rw [List.length_map]
  rcases firstOf_neg (fun j => U.bad hs.length (U.nt l j)) l.length 0 with hp | hp
  · rw [if_pos hp] at h
    rw [decide_eq_true (show 0 ≤ U.badL hs.length l from hp)]
    exact ⟨h, rfl⟩
  · rw [if_neg (by omega)] at h
    rw [show U.badL hs.length l = -1 from hp]
    exact ⟨h, rfl⟩
theorem wf32 (hs : List Obj) (l : List Int) (hl : l.length < 1000000) : Wf Try.prog H 32 [.sl (l.map encI), .clo 29 [.pt 0 0 0]] (bx hs) = some (goB (decide (U.badL hs.length l ≥ 0)), bx hs, []) := by
  refine runK (t32 hs l _) ?_
  rw [badR_map]
  exact ⟨wf40 hs l hl, rfl⟩
theorem wf31 (hs : List Obj) (o : Obj) : Wf Try.prog H 31 [.agg (encO o), .pt 0 0 0] (bx2 hs) = some (goB (U.badOb hs.length o), bx2 hs, []) := by
  refine runK (t31 hs o _) ?_
  unfold U.badOb U.badO
  rw [badR_map]
  cases h1 : decide (((o.refs.map encI).length : Int) > 8) with
  | true => exact rfl
  | false =>
    have h32 := wf32 hs o.refs (by
      rw [decide_eq_false_iff_not, List.length_map] at h1
      omega)
    cases decide (((o.ints.map encI).length : Int) > 8) with
    | true => exact rfl
    | false => exact ⟨h32, rfl⟩
theorem rowO {l : List Obj} {i : Nat} (h : i < l.length) : rowAt (l.map encO) i = [.sl ((U.ob l i).refs.map encI), .sl ((U.ob l i).ints.map encI)] := rowAt_map h
theorem getO {l : List Obj} {i : Nat} (h : i < l.length) : (l.map encO)[i]? = some [.sl ((U.ob l i).refs.map encI), .sl ((U.ob l i).ints.map encI)] := rows_map h
theorem ob_mem {l : List Obj} {i : Nat} (h : i < l.length) : U.ob l i ∈ l := getD_mem h
theorem loop39_2 (hs : List Obj) (hl : hs.length < 1000000) : ∀ (d i : Nat), i + d = hs.length →
    LoopTo Try.prog H (H 39) 2 (loopOf Try.prog 39 2) (mkS 19 [(0, .sl (hs.map encO)), (1, .clo 31 [.pt 0 0 0]), (7, goI hs.length), (8, goI i)] (bx2 hs))
      (if 0 ≤ U.firstOf (fun j => U.badOb hs.length (U.ob hs j)) d i then (.ret, mkS 19 [(4, goI (U.firstOf (fun j => U.badOb hs.length (U.ob hs j)) d i))] (bx2 hs)) else (.exit 0, mkS 19 [] (bx2 hs)))
  | 0, i, hd => by
    refine turnK (t39_2 hs i _) ?_
    rw [decide_eq_false (by omega)]
    exact (if_neg (by simp [U.firstOf])).symm
  | d + 1, i, hd => by
    have hi : i < hs.length := by omega
    have ih := loop39_2 hs hl d (i + 1) (by omega)
    have h31 := wf31 hs (U.ob hs i)
    refine turnK (t39_2 hs i _) ?_
    rw [decide_eq_true (by omega), wrapS hi hl, rowO hi, getO hi]
    simp only [rdL, List.getD_cons_zero, List.getD_cons_succ, slOf]
    have e : U.badO hs.length ((U.ob hs i).refs.map encI) ((U.ob hs i).ints.map encI) = U.badOb hs.length (U.ob hs i) := rfl
    rw [e]
    refine ⟨⟨by omega, by trivial⟩, h31, ?_⟩
    cases h : U.badOb hs.length (U.ob hs i) with
    | true =>
      have e : U.firstOf (fun j => U.badOb hs.length (U.ob hs j)) (d + 1) i = (i : Int) := by rw [firstOf_step]; exact if_pos h
      rw [e, if_pos (by omega)]; exact rfl
    | false =>
      have e : U.firstOf (fun j => U.badOb hs.length (U.ob hs j)) (d + 1) i = U.firstOf (fun j => U.badOb hs.length (U.ob hs j)) d (i + 1) := by rw [firstOf_step]; exact if_neg (by rw [h]; simp)
      rw [e]; exact ih
theorem decO_map (l : List Obj) : U.decO (l.map encO) = l := by
  unfold U.decO
  rw [List.map_map]
  refine (List.map_congr_left (g := id) (fun m _ => ?_)).trans (List.map_id l)
  show (⟨((m.refs.map encI).map fun r => rdI r 0), ((m.ints.map encI).map fun r => rdI r 0)⟩ : Obj) = m
  rw [decI1, decI1]
theorem wf39 (hs : List Obj) (hl : hs.length < 1000000) : Wf Try.prog H 39 [.sl (hs.map encO), .clo 31 [.pt 0 0 0]] (bx2 hs) = some (goI (U.badH hs.length hs), bx2 hs, []) := by
  refine runK (t39 hs (U.badH hs.length hs) (decide (0 ≤ U.badH hs.length hs)) _) ?_
  have h := loop39_2 hs hl hs.length 0 (by omega)
  rw [List.length_map]
  rcases firstOf_neg (fun j => U.badOb hs.length (U.ob hs j)) hs.length 0 with hp | hp
  · rw [if_pos hp] at h
    rw [decide_eq_true (show 0 ≤ U.badH hs.length hs from hp)]
    exact ⟨h, rfl⟩
  · rw [if_neg (by omega)] at h
    rw [show U.badH hs.length hs = -1 from hp]
    exact ⟨h, rfl⟩
namespace U
/-- Is it a heap as it must be? -/
def right (hs : List Obj) : Bool := !decide (badH hs.length hs ≥ 0)
end U
theorem wf14 (hs : List Obj) (hl : hs.length < 1000000) : Wf Try.prog H 14 [hp hs] [] = some (goB (U.right hs), [], []) := by
  refine runK (t14 hs _) ?_
  have e : U.badHR hs.length (hs.map encO) = U.badH hs.length hs := by unfold U.badHR; rw [decO_map]
  have h30 : Wf Try.prog H 30 [.sl (hs.map encO), .clo 31 [.pt 0 0 0]] (bx2 hs) = some (goB (decide (U.badH hs.length hs ≥ 0)), bx2 hs, []) := by
    refine runK (t30 hs _) ?_
    rw [e]
    exact ⟨wf39 hs hl, rfl⟩
  rw [e]
  exact ⟨h30, rfl⟩
theorem right_iff (hs : List Obj) : U.right hs = true ↔ ∀ o ∈ hs, U.badOb hs.length o = false := by
  unfold U.right U.badH
  rw [Bool.not_eq_true', decide_eq_false_iff_not]
  constructor
  · intro h o ho
    obtain ⟨i, hi, rfl⟩ := mem_getD ho
    cases hb : U.badOb hs.length (hs.getD i default) with
    | false => rfl
    | true => exact absurd (firstOf_ge (fun j => U.badOb hs.length (U.ob hs j)) hs.length 0 i (Nat.zero_le _) (by omega) hb) h
  · intro h hp
    obtain ⟨w, _, _, hw, hb⟩ := firstOf_val _ _ _ hp
    have := h _ (ob_mem (show w < hs.length by omega))
    rw [this] at hb
    cases hb
end Go.Proofs.Ytnmnaomfohlmcaa.E
