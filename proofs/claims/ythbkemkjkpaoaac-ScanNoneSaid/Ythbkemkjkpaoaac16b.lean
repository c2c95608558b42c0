/- Functions, by what the evaluator asks; the theorems t.. were printed by show.txt, a program of this session. -/
import Derived.Test.Ythbkemkjkpaoaac16a
set_option linter.unusedVariables false
set_option linter.unusedSimpArgs false
set_option maxRecDepth 100000
namespace Go.Proofs.Ythbkemkjkpaoaac.E
open Go
namespace U
def takenAt (l : List Span) (hs : List Loc) (i : Nat) (n : Int) (k : Nat) : Bool := decide (lc hs k = ⟨2, n⟩) && meet (sp l k) (sp l i)
def takenFrom (l : List Span) (hs : List Loc) (i : Nat) (n : Int) (k : Nat) : Bool := !(allFrom (fun j => !(takenAt l hs i n j)) k hs.length)
def meetR (a b c : Int) (d : Bool) (a' b' c' : Int) (d' : Bool) : Bool := meet ⟨a, b, c, d⟩ ⟨a', b', c', d'⟩
end U
def F23 : CallT := fun f args sto => match f, args with
 | 23, [.agg [.v (.int _ a), .v (.int _ b), .v (.int _ c), .v (.bool d)], .agg [.v (.int _ a'), .v (.int _ b'), .v (.int _ c'), .v (.bool d')]] => .is (goB (U.meetR a b c d a' b' c' d'), [], [])
 | 24, [.agg [.v (.int _ a), .v (.int _ b), .v (.int _ c), .v (.bool d)], .agg [.v (.int _ a'), .v (.int _ b'), .v (.int _ c'), .v (.bool d')]] => .is (goB (U.meetR a b c d a' b' c' d'), [], [])
 | _, _ => .no
def scn2 (l : List Span) (hs : List Loc) (rs : List Int) (i : Nat) : List Row := [.box [.pt 2 0 0], .box [goI i], .box [.sl (l.map encS), .os 3 0 hs.length, .os 4 0 rs.length], .arr 2 (hs.map encL), .arr 1 (rs.map encI)]
def L32 (l : List Span) (hs : List Loc) (rs : List Int) (i : Nat) (b : Bool) : Nat → St → LT := fun id st => .by b (.is .ret (mkS 39 [(4, goB true)] (scn2 l hs rs i ++ [.dead]))) (.is (.exit 0) (mkS 39 [] (scn2 l hs rs i ++ [.dead])))
namespace U
def decS (xs : List (List AV)) : List Span := xs.map fun r => ⟨rdI r 0, rdI r 1, rdI r 2, rdB r 3⟩
def decL (xs : List (List AV)) : List Loc := xs.map fun r => ⟨rdI r 0, rdI r 1⟩
def takenR (l hs : List (List AV)) (i : Nat) (n : Int) : Bool := takenFrom (decS l) (decL hs) i n 0
end U
def F27 : CallT := fun f args sto => match f, args, sto with
 | 32, [.v (.int _ n), _, _], [a, .box [.v (.int _ i)], .box [.sl l, .os _ _ _, .os _ _ _], .arr _ hs, .arr _ rs] => .is (goB (U.takenR l hs i.toNat n), [a, .box [goI i], .box [.sl l, .os 3 0 hs.length, .os 4 0 rs.length], .arr 2 hs, .arr 1 rs], [])
 | _, _, _ => .no
def L27 (l : List Span) (hs : List Loc) (rs : List Int) (i : Nat) (n : Int) : Nat → St → LT := fun id st => .is (.exit 0) (mkS 20 [(2, .pt 3 0 0), (3, .pt 4 0 0), (5, goI n)] (scn l hs rs ++ [.box [.pt 0 0 0], .box [goI i]]))

theorem t32 (l : List Span) (hs : List Loc) (rs : List Int) (i : Nat) (n : Int) (b : Bool) (r : AV × List Row × List Nat) : (runT Try.prog H (fun f args sto => CT.of (F0 f args sto)) (L32 l hs rs i b) false 32 [goI n, AV.pt 0 0 0, AV.pt 1 0 0]
  (scn2 l hs rs i) fun q => q = r) = (TB b
  (LoopTo Try.prog H (H 32) 5 (loopOf Try.prog 32 2)
      (mkS 39
        [(0, goI n), (1, AV.pt 0 0 0), (2, AV.pt 1 0 0), (10, AV.os 3 0 (List.length hs)),
          (11, goI (↑(List.length hs) : Int)), (12, goI 0)]
        [Row.box [AV.pt 2 0 0], Row.box [goI (↑i : Int)],
          Row.box [AV.sl (List.map encS l), AV.os 3 0 (List.length hs), AV.os 4 0 (List.length rs)],
          Row.arr 2 (List.map encL hs), Row.arr 1 (List.map encI rs), Row.dead])
      (Ex.ret,
        mkS 39 [(4, goB true)]
          [Row.box [AV.pt 2 0 0], Row.box [goI (↑i : Int)],
            Row.box [AV.sl (List.map encS l), AV.os 3 0 (List.length hs), AV.os 4 0 (List.length rs)],
            Row.arr 2 (List.map encL hs), Row.arr 1 (List.map encI rs), Row.dead]) ∧
    (goB true,
        [Row.box [AV.pt 2 0 0], Row.box [goI (↑i : Int)],
          Row.box [AV.sl (List.map encS l), AV.os 3 0 (List.length hs), AV.os 4 0 (List.length rs)],
          Row.arr 2 (List.map encL hs), Row.arr 1 (List.map encI rs)],
        []) =
      r)
  (LoopTo Try.prog H (H 32) 5 (loopOf Try.prog 32 2)
      (mkS 39
        [(0, goI n), (1, AV.pt 0 0 0), (2, AV.pt 1 0 0), (10, AV.os 3 0 (List.length hs)),
          (11, goI (↑(List.length hs) : Int)), (12, goI 0)]
        [Row.box [AV.pt 2 0 0], Row.box [goI (↑i : Int)],
          Row.box [AV.sl (List.map encS l), AV.os 3 0 (List.length hs), AV.os 4 0 (List.length rs)],
          Row.arr 2 (List.map encL hs), Row.arr 1 (List.map encI rs), Row.dead])
      (Ex.exit 0,
        mkS 39 []
          [Row.box [AV.pt 2 0 0], Row.box [goI (↑i : Int)],
            Row.box [AV.sl (List.map encS l), AV.os 3 0 (List.length hs), AV.os 4 0 (List.length rs)],
            Row.arr 2 (List.map encL hs), Row.arr 1 (List.map encI rs), Row.dead]) ∧
    (goB false,
        [Row.box [AV.pt 2 0 0], Row.box [goI (↑i : Int)],
          Row.box [AV.sl (List.map encS l), AV.os 3 0 (List.length hs), AV.os 4 0 (List.length rs)],
          Row.arr 2 (List.map encL hs), Row.arr 1 (List.map encI rs)],
        []) =
      r)) := by kernel_rfl
theorem t32_2 (l : List Span) (hs : List Loc) (rs : List Int) (i : Nat) (k : Nat) (n : Int) (r : Ex × St) : (turnT Try.prog H F23 L0 false (H 32) 5 (loopOf Try.prog 32 2)
  (mkS 39
    [(0, goI n), (1, AV.pt 0 0 0), (2, AV.pt 1 0 0), (10, AV.os 3 0 (List.length hs)),
      (11, goI (↑(List.length hs) : Int)), (12, goI (↑k : Int))]
    (scn2 l hs rs i ++ [Row.dead]))
  r) = (TB (decide ((↑k : Int) < (↑(List.length hs) : Int)))
  ((0 ≤ (↑k : Int) ∧ (↑k : Int) < (↑(List.length hs) : Int) ∧ 0 + k < List.length (List.map encL hs)) ∧
    cutAt 2 0 (List.map encL hs)[0 + k]? =
        some [goI (rdI (rowAt (List.map encL hs) (0 + k)) 0), goI (rdI (rowAt (List.map encL hs) (0 + k)) 1)] ∧
      TB (rdI (rowAt (List.map encL hs) (0 + k)) 0 == 2 && (rdI (rowAt (List.map encL hs) (0 + k)) 1 == n && true))
        ((0 ≤ (↑k : Int) ∧
            (List.map encS l)[k]? =
              some
                [goI (rdI (rowAt (List.map encS l) k) 0), goI (rdI (rowAt (List.map encS l) k) 1),
                  goI (rdI (rowAt (List.map encS l) k) 2), goB (rdB (rowAt (List.map encS l) k) 3)]) ∧
          (0 ≤ (↑i : Int) ∧
              (List.map encS l)[i]? =
                some
                  [goI (rdI (rowAt (List.map encS l) i) 0), goI (rdI (rowAt (List.map encS l) i) 1),
                    goI (rdI (rowAt (List.map encS l) i) 2), goB (rdB (rowAt (List.map encS l) i) 3)]) ∧
            Wf Try.prog H 23
                  [AV.agg
                      [goI (rdI (rowAt (List.map encS l) k) 0), goI (rdI (rowAt (List.map encS l) k) 1),
                        goI (rdI (rowAt (List.map encS l) k) 2), goB (rdB (rowAt (List.map encS l) k) 3)],
                    AV.agg
                      [goI (rdI (rowAt (List.map encS l) i) 0), goI (rdI (rowAt (List.map encS l) i) 1),
                        goI (rdI (rowAt (List.map encS l) i) 2), goB (rdB (rowAt (List.map encS l) i) 3)]]
                  [] =
                some
                  (goB
                      (U.meetR (rdI (rowAt (List.map encS l) k) 0) (rdI (rowAt (List.map encS l) k) 1)
                        (rdI (rowAt (List.map encS l) k) 2) (rdB (rowAt (List.map encS l) k) 3)
                        (rdI (rowAt (List.map encS l) i) 0) (rdI (rowAt (List.map encS l) i) 1)
                        (rdI (rowAt (List.map encS l) i) 2) (rdB (rowAt (List.map encS l) i) 3)),
                    [], []) ∧
              TB
                (U.meetR (rdI (rowAt (List.map encS l) k) 0) (rdI (rowAt (List.map encS l) k) 1)
                  (rdI (rowAt (List.map encS l) k) 2) (rdB (rowAt (List.map encS l) k) 3)
                  (rdI (rowAt (List.map encS l) i) 0) (rdI (rowAt (List.map encS l) i) 1)
                  (rdI (rowAt (List.map encS l) i) 2) (rdB (rowAt (List.map encS l) i) 3))
                ((Ex.ret,
                    mkS 39 [(4, goB true)]
                      [Row.box [AV.pt 2 0 0], Row.box [goI (↑i : Int)],
                        Row.box [AV.sl (List.map encS l), AV.os 3 0 (List.length hs), AV.os 4 0 (List.length rs)],
                        Row.arr 2 (List.map encL hs), Row.arr 1 (List.map encI rs), Row.dead]) =
                  r)
                (LoopTo Try.prog H (H 32) 5 (loopOf Try.prog 32 2)
                  (mkS 39
                    [(0, goI n), (1, AV.pt 0 0 0), (2, AV.pt 1 0 0), (10, AV.os 3 0 (List.length hs)),
                      (11, goI (↑(List.length hs) : Int)), (12, goI (IntKind.wrap IntKind.i64 ((↑k : Int) + 1)))]
                    [Row.box [AV.pt 2 0 0], Row.box [goI (↑i : Int)],
                      Row.box [AV.sl (List.map encS l), AV.os 3 0 (List.length hs), AV.os 4 0 (List.length rs)],
                      Row.arr 2 (List.map encL hs), Row.arr 1 (List.map encI rs), Row.dead])
                  r))
        (LoopTo Try.prog H (H 32) 5 (loopOf Try.prog 32 2)
          (mkS 39
            [(0, goI n), (1, AV.pt 0 0 0), (2, AV.pt 1 0 0), (10, AV.os 3 0 (List.length hs)),
              (11, goI (↑(List.length hs) : Int)), (12, goI (IntKind.wrap IntKind.i64 ((↑k : Int) + 1)))]
            [Row.box [AV.pt 2 0 0], Row.box [goI (↑i : Int)],
              Row.box [AV.sl (List.map encS l), AV.os 3 0 (List.length hs), AV.os 4 0 (List.length rs)],
              Row.arr 2 (List.map encL hs), Row.arr 1 (List.map encI rs), Row.dead])
          r))
  ((Ex.exit 0,
      mkS 39 []
        [Row.box [AV.pt 2 0 0], Row.box [goI (↑i : Int)],
          Row.box [AV.sl (List.map encS l), AV.os 3 0 (List.length hs), AV.os 4 0 (List.length rs)],
          Row.arr 2 (List.map encL hs), Row.arr 1 (List.map encI rs), Row.dead]) =
    r)) := by kernel_rfl
theorem t27 (l : List Span) (hs : List Loc) (rs : List Int) (i : Nat) (n : Int) (r : AV × List Row × List Nat) : (runT Try.prog H (fun f args sto => CT.of (F0 f args sto)) (L27 l hs rs i n) false 27 [AV.pt 0 0 0, goI (↑i : Int)]
  (scn l hs rs) fun q => q = r) = (LoopTo Try.prog H (H 27) 3 (loopOf Try.prog 27 3)
    (mkS 20 [(2, AV.pt 3 0 0), (3, AV.pt 4 0 0), (4, AV.clo 32 [AV.pt 3 0 0, AV.pt 4 0 0]), (5, goI 0)]
      [Row.box [AV.sl (List.map encS l), AV.os 1 0 (List.length hs), AV.os 2 0 (List.length rs)],
        Row.arr 2 (List.map encL hs), Row.arr 1 (List.map encI rs), Row.box [AV.pt 0 0 0], Row.box [goI (↑i : Int)]])
    (Ex.exit 0,
      mkS 20 [(2, AV.pt 3 0 0), (3, AV.pt 4 0 0), (5, goI n)]
        [Row.box [AV.sl (List.map encS l), AV.os 1 0 (List.length hs), AV.os 2 0 (List.length rs)],
          Row.arr 2 (List.map encL hs), Row.arr 1 (List.map encI rs), Row.box [AV.pt 0 0 0],
          Row.box [goI (↑i : Int)]]) ∧
  (0 ≤ (↑i : Int) ∧ (↑i : Int) < (↑(List.length hs) : Int) ∧ 0 + i < List.length (List.map encL hs)) ∧
    Option.map List.length (List.map encL hs)[0 + i]? = some 2 ∧
      (AV.tup [],
          [Row.box [AV.sl (List.map encS l), AV.os 1 0 (List.length hs), AV.os 2 0 (List.length rs)],
            Row.arr 2 (List.set (List.map encL hs) (0 + i) [goI 2, goI n]), Row.arr 1 (List.map encI rs)],
          []) =
        r) := by kernel_rfl
theorem t27_3 (l : List Span) (hs : List Loc) (rs : List Int) (i : Nat) (n : Nat) (r : Ex × St) : (turnT Try.prog H F27 L0 false (H 27) 3 (loopOf Try.prog 27 3)
  (mkS 20 [(2, AV.pt 3 0 0), (3, AV.pt 4 0 0), (4, AV.clo 32 [AV.pt 3 0 0, AV.pt 4 0 0]), (5, goI (↑n : Int))]
    (scn l hs rs ++ [Row.box [AV.pt 0 0 0], Row.box [goI (↑i : Int)]]))
  r) = (Wf Try.prog H 32 [goI (↑n : Int), AV.pt 0 0 0, AV.pt 1 0 0]
      [Row.box [AV.pt 2 0 0], Row.box [goI (↑i : Int)],
        Row.box [AV.sl (List.map encS l), AV.os 3 0 (List.length hs), AV.os 4 0 (List.length rs)],
        Row.arr 2 (List.map encL hs), Row.arr 1 (List.map encI rs)] =
    some
      (goB (U.takenR (List.map encS l) (List.map encL hs) i (↑n : Int)),
        [Row.box [AV.pt 2 0 0], Row.box [goI (↑i : Int)],
          Row.box
            [AV.sl (List.map encS l), AV.os 3 0 (List.length (List.map encL hs)),
              AV.os 4 0 (List.length (List.map encI rs))],
          Row.arr 2 (List.map encL hs), Row.arr 1 (List.map encI rs)],
        []) ∧
  TB (U.takenR (List.map encS l) (List.map encL hs) i (↑n : Int))
    (LoopTo Try.prog H (H 27) 3 (loopOf Try.prog 27 3)
      (mkS 20
        [(2, AV.pt 3 0 0), (3, AV.pt 4 0 0), (4, AV.clo 32 [AV.pt 3 0 0, AV.pt 4 0 0]),
          (5, goI (IntKind.wrap IntKind.i64 ((↑n : Int) + 1)))]
        [Row.box
            [AV.sl (List.map encS l), AV.os 1 0 (List.length (List.map encL hs)),
              AV.os 2 0 (List.length (List.map encI rs))],
          Row.arr 2 (List.map encL hs), Row.arr 1 (List.map encI rs), Row.box [AV.pt 0 0 0], Row.box [goI (↑i : Int)]])
      r)
    ((Ex.exit 0,
        mkS 20 [(2, AV.pt 3 0 0), (3, AV.pt 4 0 0), (5, goI (↑n : Int))]
          [Row.box
              [AV.sl (List.map encS l), AV.os 1 0 (List.length (List.map encL hs)),
                AV.os 2 0 (List.length (List.map encI rs))],
            Row.arr 2 (List.map encL hs), Row.arr 1 (List.map encI rs), Row.box [AV.pt 0 0 0],
            Row.box [goI (↑i : Int)]]) =
      r)) := by kernel_rfl
theorem decS_map (l : List Span) : U.decS (l.map encS) = l := by
  unfold U.decS
  rw [List.map_map]
  refine (List.map_congr_left (g := id) (fun m _ => ?_)).trans (List.map_id l)
  rfl
theorem decL_map (l : List Loc) : U.decL (l.map encL) = l := by
  unfold U.decL
  rw [List.map_map]
  refine (List.map_congr_left (g := id) (fun m _ => ?_)).trans (List.map_id l)
  rfl
theorem taken_step (l : List Span) (hs : List Loc) (i : Nat) (n : Int) {k : Nat} (hk : k < hs.length) : U.takenFrom l hs i n k = (U.takenAt l hs i n k || U.takenFrom l hs i n (k + 1)) := by
  unfold U.takenFrom; rw [allFrom_step _ hk]; simp [Bool.not_and]
theorem loop32_2 (l : List Span) (hs : List Loc) (rs : List Int) (i : Nat) (n : Int) (hi : i < l.length) (hl : hs.length = l.length) (hl2 : l.length < 1000000) : ∀ (d k : Nat), k + d = hs.length →
    LoopTo Try.prog H (H 32) 5 (loopOf Try.prog 32 2) (mkS 39 [(0, goI n), (1, .pt 0 0 0), (2, .pt 1 0 0), (10, .os 3 0 hs.length), (11, goI hs.length), (12, goI k)] (scn2 l hs rs i ++ [.dead]))
      (if U.takenFrom l hs i n k then (.ret, mkS 39 [(4, goB true)] (scn2 l hs rs i ++ [.dead])) else (.exit 0, mkS 39 [] (scn2 l hs rs i ++ [.dead])))
  | 0, k, hd => by
    refine turnK (t32_2 l hs rs i k n _) ?_
    have hk : k = hs.length := by omega
    subst hk
    rw [decide_eq_false (by omega), if_neg (by simp [U.takenFrom, allFrom_end])]
    exact rfl
  | d + 1, k, hd => by
    refine turnK (t32_2 l hs rs i k n _) ?_
    have hk : k < hs.length := by omega
    have hkl : k < l.length := by omega
    have ih := loop32_2 l hs rs i n hi hl hl2 d (k + 1) (by omega)
    have h23 := wf23 (U.sp l k) (U.sp l i)
    rw [decide_eq_true (by omega), wrapS hk (by omega), Nat.zero_add, rowL hk, getL hk, rowS hkl, getS hkl, rowS hi, getS hi, taken_step l hs i n hk]
    simp only [rdI, rdB, List.getD_cons_zero, List.getD_cons_succ, int_goI, bool_goB, Bool.and_true]
    refine ⟨⟨by omega, by omega, by rw [List.length_map]; exact hk⟩, by rfl, ?_⟩
    have e1 : ((U.lc hs k).k == 2 && (U.lc hs k).n == n) = decide (U.lc hs k = ⟨2, n⟩) := by rw [Bool.eq_iff_iff]; simp [Loc.eq_iff]
    have e2 : U.meetR (U.sp l k).v (U.sp l k).fr (U.sp l k).to (U.sp l k).call (U.sp l i).v (U.sp l i).fr (U.sp l i).to (U.sp l i).call = U.meet (U.sp l k) (U.sp l i) := rfl
    rw [e1, e2]
    unfold U.takenAt
    cases decide (U.lc hs k = ⟨2, n⟩) with
    | false => exact ih
    | true =>
      refine ⟨⟨by omega, by trivial⟩, ⟨by omega, by trivial⟩, h23, ?_⟩
      cases U.meet (U.sp l k) (U.sp l i) with
      | true => exact rfl
      | false => exact ih
theorem wf32 (l : List Span) (hs : List Loc) (rs : List Int) (i : Nat) (n : Int) (hi : i < l.length) (hl : hs.length = l.length) (hl2 : l.length < 1000000) : Wf Try.prog H 32 [goI n, .pt 0 0 0, .pt 1 0 0] (scn2 l hs rs i) = some (goB (U.takenFrom l hs i n 0), scn2 l hs rs i, []) := by
  refine runK (t32 l hs rs i n (U.takenFrom l hs i n 0) _) ?_
  have h := loop32_2 l hs rs i n hi hl hl2 hs.length 0 (by omega)
  cases h1 : U.takenFrom l hs i n 0 with
  | true => rw [h1] at h; exact ⟨h, rfl⟩
  | false => rw [h1] at h; exact ⟨h, rfl⟩
namespace U
/-- The slot that a span goes to. -/
def slotOf (l : List Span) (hs : List Loc) (i : Nat) : Nat := (firstOf (fun n => !(takenFrom l hs i n 0)) (hs.length + 1) 0).toNat
end U
theorem taken_iff {l : List Span} {hs : List Loc} {i : Nat} {n : Int} : U.takenFrom l hs i n 0 = true ↔ ∃ k, k < hs.length ∧ U.lc hs k = ⟨2, n⟩ ∧ U.meet (U.sp l k) (U.sp l i) = true := by
  unfold U.takenFrom U.takenAt
  rw [Bool.not_eq_true', ← Bool.not_eq_true, allFrom_iff]
  constructor
  · intro h
    false_or_by_contra
    rename_i hn
    refine h (fun j _ hj => ?_)
    simp only [Bool.not_eq_true', Bool.and_eq_false_iff, decide_eq_false_iff_not]
    by_cases h1 : U.lc hs j = ⟨2, n⟩
    · right
      cases h2 : U.meet (U.sp l j) (U.sp l i) with
      | false => rfl
      | true => exact absurd ⟨j, hj, h1, h2⟩ hn
    · exact .inl h1
  · rintro ⟨k, hk, h1, h2⟩ h
    have := h k (Nat.zero_le _) hk
    rw [h1, h2] at this
    simp at this
/-- Among one more numbers than there are places one is free. -/
theorem slot_free (l : List Span) (hs : List Loc) (i : Nat) : 0 ≤ U.firstOf (fun n : Nat => !(U.takenFrom l hs i n 0)) (hs.length + 1) 0 := by
  false_or_by_contra
  rename_i hn
  have hall : ∀ n : Nat, n < hs.length + 1 → U.takenFrom l hs i n 0 = true := fun n hlt => by
    cases h : U.takenFrom l hs i n 0 with
    | true => rfl
    | false => exact absurd (firstOf_ge (fun n : Nat => !(U.takenFrom l hs i n 0)) (hs.length + 1) 0 n (Nat.zero_le _) (by omega) (by rw [h]; rfl)) hn
  have hcov := len_of_cover (a := (List.range (hs.length + 1)).map fun n : Nat => (⟨2, n⟩ : Loc)) (b := hs) (by
    unfold List.Nodup
    rw [List.pairwise_map]
    refine List.Pairwise.imp ?_ (List.nodup_range (n := hs.length + 1))
    intro a b hab e
    apply hab
    have := congrArg Loc.n e
    simp at this
    omega) (fun x hx => by
    obtain ⟨n, hnm, rfl⟩ := List.mem_map.1 hx
    have hlt := List.mem_range.1 hnm
    obtain ⟨k, hk, h1, _⟩ := taken_iff.1 (hall n hlt)
    rw [← h1]
    exact getD_mem hk)
  simp at hcov
  omega
theorem slotOf_spec (l : List Span) (hs : List Loc) (i : Nat) : U.slotOf l hs i ≤ hs.length ∧ U.takenFrom l hs i (U.slotOf l hs i) 0 = false ∧ ∀ n, n < U.slotOf l hs i → U.takenFrom l hs i n 0 = true := by
  obtain ⟨w, h1, h2, h3, h4⟩ := firstOf_val _ _ _ (slot_free l hs i)
  have hw : U.slotOf l hs i = w := by unfold U.slotOf; rw [h1]; rfl
  rw [hw]
  refine ⟨by omega, by simpa using h4, fun n hn => ?_⟩
  have := firstOf_least _ _ _ w h1 n (Nat.zero_le _) hn
  simpa using this
theorem loop27_3 (l : List Span) (hs : List Loc) (rs : List Int) (i : Nat) (hi : i < l.length) (hl : hs.length = l.length) (hl2 : l.length < 100000) : ∀ (d n : Nat), n + d = U.slotOf l hs i →
    LoopTo Try.prog H (H 27) 3 (loopOf Try.prog 27 3) (mkS 20 [(2, .pt 3 0 0), (3, .pt 4 0 0), (4, .clo 32 [.pt 3 0 0, .pt 4 0 0]), (5, goI n)] (scn l hs rs ++ [.box [.pt 0 0 0], .box [goI i]]))
      (.exit 0, mkS 20 [(2, .pt 3 0 0), (3, .pt 4 0 0), (5, goI (U.slotOf l hs i))] (scn l hs rs ++ [.box [.pt 0 0 0], .box [goI i]]))
  | 0, n, hd => by
    obtain ⟨s1, s2, s3⟩ := slotOf_spec l hs i
    have hn : n = U.slotOf l hs i := by omega
    refine turnK (t27_3 l hs rs i n _) ?_
    have h32 := wf32 l hs rs i n hi hl (by omega)
    have et : U.takenR (l.map encS) (hs.map encL) i n = U.takenFrom l hs i n 0 := by unfold U.takenR; rw [decS_map, decL_map]
    rw [hn] at h32 et ⊢
    rw [et]
    rw [s2] at h32 ⊢
    rw [List.length_map, List.length_map]
    exact ⟨h32, rfl⟩
  | d + 1, n, hd => by
    obtain ⟨s1, s2, s3⟩ := slotOf_spec l hs i
    have ih := loop27_3 l hs rs i hi hl hl2 d (n + 1) (by omega)
    refine turnK (t27_3 l hs rs i n _) ?_
    have h32 := wf32 l hs rs i n hi hl (by omega)
    have et : U.takenR (l.map encS) (hs.map encL) i n = U.takenFrom l hs i n 0 := by unfold U.takenR; rw [decS_map, decL_map]
    have ht := s3 n (by omega)
    rw [et]
    rw [ht] at h32 ⊢
    have hwr : IntKind.i64.wrap ((n : Int) + 1) = ((n + 1 : Nat) : Int) := by rw [wrap64] <;> omega
    rw [List.length_map, List.length_map, hwr]
    exact ⟨h32, ih⟩
theorem wf27 (l : List Span) (hs : List Loc) (rs : List Int) (i : Nat) (hi : i < l.length) (hl : hs.length = l.length) (hl2 : l.length < 100000) : Wf Try.prog H 27 [.pt 0 0 0, goI i] (scn l hs rs) = some (.tup [], scn l (hs.set i ⟨2, U.slotOf l hs i⟩) rs, []) := by
  have h := loop27_3 l hs rs i hi hl hl2 (U.slotOf l hs i) 0 (by omega)
  refine runK (t27 l hs rs i (U.slotOf l hs i) _) ⟨h, ⟨by omega, by omega, by rw [List.length_map]; omega⟩, ?_, ?_⟩
  · rw [Nat.zero_add, getL (by omega)]; rfl
  · have e : (hs.map encL).set (0 + i) [goI 2, goI ((U.slotOf l hs i : Nat) : Int)] = (hs.set i ⟨2, U.slotOf l hs i⟩).map encL := by rw [Nat.zero_add]; exact set_map encL hs i ⟨2, U.slotOf l hs i⟩
    unfold scn
    rw [e, List.length_set]
end Go.Proofs.Ythbkemkjkpaoaac.E
