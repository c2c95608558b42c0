/- Functions, by what the evaluator asks; the theorems t.. were printed by show.txt, a program of this session. -/
import Derived.Test.Ythbkemkjkpaoaab17r
set_option linter.unusedVariables false
set_option linter.unusedSimpArgs false
set_option maxRecDepth 100000
namespace Go.Proofs.Ythbkemkjkpaoaab.E
open Go
def L15 (l : List Mv) (at_ : List Loc) (hs : List Int) (L1 L2 L3 : List (List Int × Value)) (n : Nat) (o0 o1 : List (List AV)) : Nat → St → LT := fun id st => match id with
 | 3 => .is (.exit 0) (mkS 96 [(0, .sl (l.map encM)), (1, .sl (at_.map encL)), (2, .sl (hs.map encI)), (7, .mp 0)] [.map kd2 L1, .dead, .dead, .dead])
 | 9 => .is (.exit 2) (mkS 96 [(0, .sl (l.map encM)), (1, .sl (at_.map encL)), (7, .mp 0), (9, .os 3 0 n)] [.map kd2 L2, .dead, .dead, .arr 1 o0])
 | 14 => .is (.exit 4) (mkS 96 [(1, .sl (at_.map encL)), (7, .mp 0), (9, .os 3 0 n)] [.map kd2 L3, .dead, .dead, .arr 1 o0])
 | 19 => .is (.exit 6) (mkS 96 [(9, .os 3 0 n)] [.dead, .dead, .dead, .arr 1 o1])
 | _ => .no
def F15 (v : Int) : CallF := fun f args sto => match f with
 | 30 => some (goI v, [], [])
 | _ => none

theorem t15 (l : List Mv) (at_ : List Loc) (hs : List Int) (L1 : List (List Int × Value)) (L2 : List (List Int × Value)) (L3 : List (List Int × Value)) (n : Nat) (o0 : List (List AV)) (o1 : List (List AV)) (r : AV × List Row × List Nat) : (runT Try.prog H (fun f args sto => CT.of (F0 f args sto)) (L15 l at_ hs L1 L2 L3 n o0 o1) false 15
  [AV.sl (List.map encM l), AV.sl (List.map encL at_), AV.sl (List.map encI hs)] [] fun q => q = r) = (LoopTo Try.prog H (H 15) 0 (loopOf Try.prog 15 3)
    (mkS 96
      [(0, AV.sl (List.map encM l)), (1, AV.sl (List.map encL at_)), (2, AV.sl (List.map encI hs)), (7, AV.mp 0),
        (8,
          goI
            (IntKind.wrap IntKind.i64
              ((if false = true then
                  if (↑(List.length (List.map encL at_)) : Int) < (↑(List.length (List.map encI hs)) : Int) then
                    (↑(List.length (List.map encI hs)) : Int)
                  else (↑(List.length (List.map encL at_)) : Int)
                else
                  if (↑(List.length (List.map encI hs)) : Int) < (↑(List.length (List.map encL at_)) : Int) then
                    (↑(List.length (List.map encI hs)) : Int)
                  else (↑(List.length (List.map encL at_)) : Int)) -
                1)))]
      [Row.map (true, [IntKind.i64, IntKind.i64]) [], Row.dead, Row.dead, Row.dead])
    (Ex.exit 0,
      mkS 96 [(0, AV.sl (List.map encM l)), (1, AV.sl (List.map encL at_)), (2, AV.sl (List.map encI hs)), (7, AV.mp 0)]
        [Row.map (true, [IntKind.i64, IntKind.i64]) L1, Row.dead, Row.dead, Row.dead]) ∧
  (0 ≤ (↑(List.length (List.map encL at_)) : Int) ∧
      (↑(List.length (List.map encL at_)) : Int) ≤ (↑(List.length (List.map encL at_)) : Int) ∧
        (↑(List.length (List.map encL at_)) : Int) ≤ (↑1000000 : Int)) ∧
    rowsOk 1 (List.map encI hs) = true ∧
      LoopTo Try.prog H (H 15) 0 (loopOf Try.prog 15 9)
          (mkS 96
            [(0, AV.sl (List.map encM l)), (1, AV.sl (List.map encL at_)), (7, AV.mp 0),
              (9, AV.os 3 0 (List.length (List.replicate (List.length (List.map encL at_)) [goI 0]))),
              (10, goI (↑(List.length (List.map encI hs)) : Int))]
            [Row.map (true, [IntKind.i64, IntKind.i64]) L1, Row.dead, Row.dead,
              Row.arr 1
                ([] ++
                    List.take (List.length (List.replicate (List.length (List.map encL at_)) [goI 0]))
                      (List.map encI hs) ++
                  List.drop
                    (0 +
                      min (List.length (List.map encI hs))
                        (List.length (List.replicate (List.length (List.map encL at_)) [goI 0])))
                    (List.replicate (List.length (List.map encL at_)) [goI 0]))])
          (Ex.exit 2,
            mkS 96 [(0, AV.sl (List.map encM l)), (1, AV.sl (List.map encL at_)), (7, AV.mp 0), (9, AV.os 3 0 n)]
              [Row.map (true, [IntKind.i64, IntKind.i64]) L2, Row.dead, Row.dead, Row.arr 1 o0]) ∧
        LoopTo Try.prog H (H 15) 0 (loopOf Try.prog 15 14)
            (mkS 96
              [(1, AV.sl (List.map encL at_)), (7, AV.mp 0), (9, AV.os 3 0 n), (62, AV.sl (List.map encM l)),
                (63, goI (↑(List.length (List.map encM l)) : Int)), (64, goI 0)]
              [Row.map (true, [IntKind.i64, IntKind.i64]) L2, Row.dead, Row.dead, Row.arr 1 o0])
            (Ex.exit 4,
              mkS 96 [(1, AV.sl (List.map encL at_)), (7, AV.mp 0), (9, AV.os 3 0 n)]
                [Row.map (true, [IntKind.i64, IntKind.i64]) L3, Row.dead, Row.dead, Row.arr 1 o0]) ∧
          LoopTo Try.prog H (H 15) 0 (loopOf Try.prog 15 19)
              (mkS 96
                [(1, AV.sl (List.map encL at_)), (7, AV.mp 0), (9, AV.os 3 0 n), (76, AV.sl (List.map encL at_)),
                  (77, goI (↑(List.length (List.map encL at_)) : Int)), (78, goI 0)]
                [Row.map (true, [IntKind.i64, IntKind.i64]) L3, Row.dead, Row.dead, Row.arr 1 o0])
              (Ex.exit 6, mkS 96 [(9, AV.os 3 0 n)] [Row.dead, Row.dead, Row.dead, Row.arr 1 o1]) ∧
            (AV.os 0 0 n, [Row.arr 1 o1], []) = r) := by kernel_rfl
theorem t15_3 (l : List Mv) (at_ : List Loc) (hs : List Int) (L : List (List Int × Value)) (i : Int) (r : Ex × St) : (turnT Try.prog H (fun f args sto => CT.of (F0 f args sto)) L0 false (H 15) 0 (loopOf Try.prog 15 3)
  (mkS 96
    [(0, AV.sl (List.map encM l)), (1, AV.sl (List.map encL at_)), (2, AV.sl (List.map encI hs)), (7, AV.mp 0),
      (8, goI i)]
    [Row.map kd2 L, Row.dead, Row.dead, Row.dead])
  r) = (TB (decide (i ≥ 0))
  ((0 ≤ i ∧
      (List.map encL at_)[Int.toNat i]? =
        some
          [goI (rdI (rowAt (List.map encL at_) (Int.toNat i)) 0),
            goI (rdI (rowAt (List.map encL at_) (Int.toNat i)) 1)]) ∧
    (0 ≤ i ∧ (List.map encI hs)[Int.toNat i]? = some [goI (rdI (rowAt (List.map encI hs) (Int.toNat i)) 0)]) ∧
      goodKey [IntKind.i64, IntKind.i64]
            [rdI (rowAt (List.map encL at_) (Int.toNat i)) 0, rdI (rowAt (List.map encL at_) (Int.toNat i)) 1] =
          true ∧
        LoopTo Try.prog H (H 15) 0 (loopOf Try.prog 15 3)
          (mkS 96
            [(0, AV.sl (List.map encM l)), (1, AV.sl (List.map encL at_)), (2, AV.sl (List.map encI hs)), (7, AV.mp 0),
              (8, goI (IntKind.wrap IntKind.i64 (i - 1)))]
            [Row.map (true, [IntKind.i64, IntKind.i64])
                (updL [rdI (rowAt (List.map encL at_) (Int.toNat i)) 0, rdI (rowAt (List.map encL at_) (Int.toNat i)) 1]
                  (Value.int IntKind.i64 (rdI (rowAt (List.map encI hs) (Int.toNat i)) 0)) L),
              Row.dead, Row.dead, Row.dead])
          r)
  ((Ex.exit 0,
      mkS 96 [(0, AV.sl (List.map encM l)), (1, AV.sl (List.map encL at_)), (2, AV.sl (List.map encI hs)), (7, AV.mp 0)]
        [Row.map (true, [IntKind.i64, IntKind.i64]) L, Row.dead, Row.dead, Row.dead]) =
    r)) := by kernel_rfl
theorem t15_9 (l : List Mv) (at_ : List Loc) (v : Int) (n : Nat) (o : List (List AV)) (L : List (List Int × Value)) (i : Nat) (r : Ex × St) : (turnT Try.prog H (fun f args sto => CT.of (F15 v f args sto)) L0 false (H 15) 0 (loopOf Try.prog 15 9)
  (mkS 96
    [(0, AV.sl (List.map encM l)), (1, AV.sl (List.map encL at_)), (7, AV.mp 0), (9, AV.os 3 0 n), (10, goI (↑i : Int))]
    [Row.map kd2 L, Row.dead, Row.dead, Row.arr 1 o])
  r) = (TB (decide ((↑i : Int) < (↑(List.length (List.map encL at_)) : Int)))
  ((0 ≤ (↑i : Int) ∧
      (List.map encL at_)[i]? =
        some [goI (rdI (rowAt (List.map encL at_) i) 0), goI (rdI (rowAt (List.map encL at_) i) 1)]) ∧
    Wf Try.prog H 30
          [AV.sl (List.map encL at_),
            AV.agg [goI (rdI (rowAt (List.map encL at_) i) 0), goI (rdI (rowAt (List.map encL at_) i) 1)]]
          [] =
        some (goI v, [], []) ∧
      TB (v == (↑i : Int))
        ((0 ≤ (↑i : Int) ∧
            (List.map encL at_)[i]? =
              some [goI (rdI (rowAt (List.map encL at_) i) 0), goI (rdI (rowAt (List.map encL at_) i) 1)]) ∧
          goodKey [IntKind.i64, IntKind.i64]
                [rdI (rowAt (List.map encL at_) i) 0, rdI (rowAt (List.map encL at_) i) 1] =
              true ∧
            LoopTo Try.prog H (H 15) 0 (loopOf Try.prog 15 9)
              (mkS 96
                [(0, AV.sl (List.map encM l)), (1, AV.sl (List.map encL at_)), (7, AV.mp 0), (9, AV.os 3 0 n),
                  (10, goI (IntKind.wrap IntKind.i64 ((↑i : Int) + 1)))]
                [Row.map (true, [IntKind.i64, IntKind.i64])
                    (updL [rdI (rowAt (List.map encL at_) i) 0, rdI (rowAt (List.map encL at_) i) 1]
                      (Value.int IntKind.i64 0) L),
                  Row.dead, Row.dead, Row.arr 1 o])
              r)
        (LoopTo Try.prog H (H 15) 0 (loopOf Try.prog 15 9)
          (mkS 96
            [(0, AV.sl (List.map encM l)), (1, AV.sl (List.map encL at_)), (7, AV.mp 0), (9, AV.os 3 0 n),
              (10, goI (IntKind.wrap IntKind.i64 ((↑i : Int) + 1)))]
            [Row.map (true, [IntKind.i64, IntKind.i64]) L, Row.dead, Row.dead, Row.arr 1 o])
          r))
  ((Ex.exit 2,
      mkS 96 [(0, AV.sl (List.map encM l)), (1, AV.sl (List.map encL at_)), (7, AV.mp 0), (9, AV.os 3 0 n)]
        [Row.map (true, [IntKind.i64, IntKind.i64]) L, Row.dead, Row.dead, Row.arr 1 o]) =
    r)) := by kernel_rfl
theorem t15_14 (l : List Mv) (at_ : List Loc) (n : Nat) (o : List (List AV)) (L : List (List Int × Value)) (i : Nat) (r : Ex × St) : (turnT Try.prog H (fun f args sto => CT.of (F0 f args sto)) L0 false (H 15) 0 (loopOf Try.prog 15 14)
  (mkS 96
    [(1, AV.sl (List.map encL at_)), (7, AV.mp 0), (9, AV.os 3 0 n), (62, AV.sl (List.map encM l)),
      (63, goI (↑(List.length l) : Int)), (64, goI (↑i : Int))]
    [Row.map kd2 L, Row.dead, Row.dead, Row.arr 1 o])
  r) = (TB (decide ((↑i : Int) < (↑(List.length l) : Int)))
  ((0 ≤ (↑i : Int) ∧
      (List.map encM l)[i]? =
        some
          [goI (rdI (rowAt (List.map encM l) i) 0), goI (rdI (rowAt (List.map encM l) i) 1),
            goI (rdI (rowAt (List.map encM l) i) 2), goI (rdI (rowAt (List.map encM l) i) 3)]) ∧
    goodKey [IntKind.i64, IntKind.i64] [rdI (rowAt (List.map encM l) i) 2, rdI (rowAt (List.map encM l) i) 3] = true ∧
      atKeyV [rdI (rowAt (List.map encM l) i) 2, rdI (rowAt (List.map encM l) i) 3] (Value.int IntKind.i64 0) L =
          Value.int IntKind.i64
            (intOf
              (AV.v
                (atKeyV [rdI (rowAt (List.map encM l) i) 2, rdI (rowAt (List.map encM l) i) 3] (Value.int IntKind.i64 0)
                  L))) ∧
        goodKey [IntKind.i64, IntKind.i64] [rdI (rowAt (List.map encM l) i) 0, rdI (rowAt (List.map encM l) i) 1] =
            true ∧
          LoopTo Try.prog H (H 15) 0 (loopOf Try.prog 15 14)
            (mkS 96
              [(1, AV.sl (List.map encL at_)), (7, AV.mp 0), (9, AV.os 3 0 n), (62, AV.sl (List.map encM l)),
                (63, goI (↑(List.length l) : Int)), (64, goI (IntKind.wrap IntKind.i64 ((↑i : Int) + 1)))]
              [Row.map (true, [IntKind.i64, IntKind.i64])
                  (updL [rdI (rowAt (List.map encM l) i) 0, rdI (rowAt (List.map encM l) i) 1]
                    (Value.int IntKind.i64
                      (intOf
                        (AV.v
                          (atKeyV [rdI (rowAt (List.map encM l) i) 2, rdI (rowAt (List.map encM l) i) 3]
                            (Value.int IntKind.i64 0) L))))
                    L),
                Row.dead, Row.dead, Row.arr 1 o])
            r)
  ((Ex.exit 4,
      mkS 96 [(1, AV.sl (List.map encL at_)), (7, AV.mp 0), (9, AV.os 3 0 n)]
        [Row.map (true, [IntKind.i64, IntKind.i64]) L, Row.dead, Row.dead, Row.arr 1 o]) =
    r)) := by kernel_rfl
theorem t15_19 (at_ : List Loc) (v : Int) (n : Nat) (o : List (List AV)) (L : List (List Int × Value)) (i : Nat) (r : Ex × St) : (turnT Try.prog H (fun f args sto => CT.of (F15 v f args sto)) L0 false (H 15) 0 (loopOf Try.prog 15 19)
  (mkS 96
    [(1, AV.sl (List.map encL at_)), (7, AV.mp 0), (9, AV.os 3 0 n), (76, AV.sl (List.map encL at_)),
      (77, goI (↑(List.length at_) : Int)), (78, goI (↑i : Int))]
    [Row.map kd2 L, Row.dead, Row.dead, Row.arr 1 o])
  r) = (TB (decide ((↑i : Int) < (↑(List.length at_) : Int)))
  ((0 ≤ (↑i : Int) ∧
      (List.map encL at_)[i]? =
        some [goI (rdI (rowAt (List.map encL at_) i) 0), goI (rdI (rowAt (List.map encL at_) i) 1)]) ∧
    Wf Try.prog H 30
          [AV.sl (List.map encL at_),
            AV.agg [goI (rdI (rowAt (List.map encL at_) i) 0), goI (rdI (rowAt (List.map encL at_) i) 1)]]
          [] =
        some (goI v, [], []) ∧
      TB (v == (↑i : Int))
        (goodKey [IntKind.i64, IntKind.i64] [rdI (rowAt (List.map encL at_) i) 0, rdI (rowAt (List.map encL at_) i) 1] =
            true ∧
          atKeyV [rdI (rowAt (List.map encL at_) i) 0, rdI (rowAt (List.map encL at_) i) 1] (Value.int IntKind.i64 0)
                L =
              Value.int IntKind.i64
                (intOf
                  (AV.v
                    (atKeyV [rdI (rowAt (List.map encL at_) i) 0, rdI (rowAt (List.map encL at_) i) 1]
                      (Value.int IntKind.i64 0) L))) ∧
            (0 ≤ (↑i : Int) ∧ (↑i : Int) < (↑n : Int) ∧ 0 + i < List.length o) ∧
              Option.map List.length o[0 + i]? = some 1 ∧
                LoopTo Try.prog H (H 15) 0 (loopOf Try.prog 15 19)
                  (mkS 96
                    [(1, AV.sl (List.map encL at_)), (7, AV.mp 0), (9, AV.os 3 0 n), (76, AV.sl (List.map encL at_)),
                      (77, goI (↑(List.length at_) : Int)), (78, goI (IntKind.wrap IntKind.i64 ((↑i : Int) + 1)))]
                    [Row.map (true, [IntKind.i64, IntKind.i64]) L, Row.dead, Row.dead,
                      Row.arr 1
                        (List.set o (0 + i)
                          [goI
                              (intOf
                                (AV.v
                                  (atKeyV [rdI (rowAt (List.map encL at_) i) 0, rdI (rowAt (List.map encL at_) i) 1]
                                    (Value.int IntKind.i64 0) L)))])])
                  r)
        (LoopTo Try.prog H (H 15) 0 (loopOf Try.prog 15 19)
          (mkS 96
            [(1, AV.sl (List.map encL at_)), (7, AV.mp 0), (9, AV.os 3 0 n), (76, AV.sl (List.map encL at_)),
              (77, goI (↑(List.length at_) : Int)), (78, goI (IntKind.wrap IntKind.i64 ((↑i : Int) + 1)))]
            [Row.map (true, [IntKind.i64, IntKind.i64]) L, Row.dead, Row.dead, Row.arr 1 o])
          r))
  ((Ex.exit 6, mkS 96 [(9, AV.os 3 0 n)] [Row.dead, Row.dead, Row.dead, Row.arr 1 o]) = r)) := by kernel_rfl
def MapIs (L : List (List Int × Value)) (S : Loc → Int) : Prop := ∀ x : Loc, atKeyV [x.k, x.n] (.int .i64 0) L = .int .i64 (S x)
theorem MapIs.upd {L : List (List Int × Value)} {S : Loc → Int} (h : MapIs L S) (y : Loc) (v : Int) : MapIs (updL [y.k, y.n] (.int .i64 v) L) (fun x => if x = y then v else S x) := fun x => by
  rw [atKeyV_updL, h x]
  by_cases e : x = y
  · subst e; simp
  · rw [if_neg (fun h => e (by simp only [List.cons.injEq, and_true] at h; exact (Loc.eq_iff _ _).2 ⟨h.1.symm, h.2.symm⟩))]
    show _ = Value.int _ (if x = y then v else S x)
    rw [if_neg e]
theorem MapIs.congr {L : List (List Int × Value)} {S S' : Loc → Int} (h : MapIs L S) (e : ∀ x, S x = S' x) : MapIs L S' := fun x => by rw [h x, e x]
def outAt (g : Nat → Int) (n : Nat) : List (List AV) := (List.range n).map fun j => [goI (g j)]
theorem outAt_len (g : Nat → Int) (n : Nat) : (outAt g n).length = n := by simp [outAt]
theorem outAt_get (g : Nat → Int) {n i : Nat} (h : i < n) : (outAt g n)[i]? = some [goI (g i)] := by simp [outAt, h]
theorem outAt_row (g : Nat → Int) {n i : Nat} (h : i < n) : rowAt (outAt g n) i = [goI (g i)] := by unfold rowAt; rw [List.getD_eq_getElem?_getD, outAt_get g h]; rfl
theorem outAt_set (g : Nat → Int) (n i : Nat) (v : Int) : (outAt g n).set i [goI v] = outAt (fun j => if j = i then v else g j) n := by
  apply List.ext_getElem?
  intro j
  rw [List.getElem?_set]
  by_cases hj : j < n
  · rw [outAt_get g hj, outAt_get (fun j => if j = i then v else g j) hj, outAt_len]
    by_cases e : i = j
    · subst e; rw [if_pos rfl, if_pos hj, if_pos rfl]
    · rw [if_neg e, if_neg (fun h => e h.symm)]
  · rw [List.getElem?_eq_none (l := outAt g n) (by rw [outAt_len]; omega), List.getElem?_eq_none (l := outAt (fun j => if j = i then v else g j) n) (by rw [outAt_len]; omega), outAt_len]
    split
    · rename_i h; subst h; rw [if_neg hj]
    · rfl
theorem outAt_congr {g g' : Nat → Int} {n : Nat} (h : ∀ j, j < n → g j = g' j) : outAt g n = outAt g' n := by
  unfold outAt
  exact List.map_congr_left (fun j hj => by rw [h j (List.mem_range.1 hj)])
namespace U
/-- What a location has, of those that stand from k on, below n. -/
def iniFrom (at_ : List Loc) (hs : List Int) (n k : Nat) (x : Loc) : Int := if 0 ≤ firstOf (fun j => decide (lc at_ j = x)) (n - k) k then nt hs (firstOf (fun j => decide (lc at_ j = x)) (n - k) k).toNat else 0
def ini (at_ : List Loc) (hs : List Int) (x : Loc) : Int := iniFrom at_ hs at_.length 0 x
def mv1 (S : Loc → Int) (m : Mv) (y : Loc) : Int := if y = m.to then S m.fr else S y
def fin (l : List Mv) (at_ : List Loc) (hs : List Int) : Loc → Int := l.foldl mv1 (ini at_ hs)
def outG (S : Loc → Int) (at_ : List Loc) (hs : List Int) (i j : Nat) : Int := if j < i ∧ idx at_ (lc at_ j) = j then S (lc at_ j) else nt hs j
def play (l : List Mv) (at_ : List Loc) (hs : List Int) : List Int := (List.range at_.length).map (outG (fin l at_ hs) at_ hs at_.length)
end U
theorem iniFrom_step (at_ : List Loc) (hs : List Int) {n k : Nat} (hk : k < n) (x : Loc) : U.iniFrom at_ hs n k x = if x = U.lc at_ k then U.nt hs k else U.iniFrom at_ hs n (k + 1) x := by
  unfold U.iniFrom
  rw [show n - k = n - (k + 1) + 1 from by omega, firstOf_step]
  by_cases h : x = U.lc at_ k
  · have h2 : decide (U.lc at_ k = x) = true := decide_eq_true h.symm
    rw [if_pos h]
    simp only [h2, if_true]
    rw [if_pos (by omega)]
    rfl
  · have h2 : decide (U.lc at_ k = x) = false := decide_eq_false (fun e => h e.symm)
    rw [if_neg h]
    simp only [h2, Bool.false_eq_true, if_false]
theorem loop15_3 (l : List Mv) (at_ : List Loc) (hs : List Int) (hat : ∀ x ∈ at_, x.ok) (hl : at_.length < 1000000) : ∀ (d : Nat) (n : Nat) (L : List (List Int × Value)), n ≤ at_.length → n ≤ hs.length → d ≤ n → MapIs L (U.iniFrom at_ hs n d) →
    ∃ L', MapIs L' (U.iniFrom at_ hs n 0) ∧ LoopTo Try.prog H (H 15) 0 (loopOf Try.prog 15 3) (mkS 96 [(0, .sl (l.map encM)), (1, .sl (at_.map encL)), (2, .sl (hs.map encI)), (7, .mp 0), (8, goI ((d : Int) - 1))] [.map kd2 L, .dead, .dead, .dead])
      (.exit 0, mkS 96 [(0, .sl (l.map encM)), (1, .sl (at_.map encL)), (2, .sl (hs.map encI)), (7, .mp 0)] [.map kd2 L', .dead, .dead, .dead])
  | 0, n, L, h1, h2, h3, hL => ⟨L, hL, by
    refine turnK (t15_3 l at_ hs L _ _) ?_
    rw [decide_eq_false (by omega)]
    exact rfl⟩
  | d + 1, n, L, h1, h2, h3, hL => by
    have hd1 : d < at_.length := by omega
    have hd2 : d < hs.length := by omega
    obtain ⟨L', hL', ih⟩ := loop15_3 l at_ hs hat hl d n (updL [(U.lc at_ d).k, (U.lc at_ d).n] (.int .i64 (U.nt hs d)) L) h1 h2 (by omega) ((hL.upd _ _).congr (fun x => (iniFrom_step at_ hs (by omega) x).symm))
    refine ⟨L', hL', ?_⟩
    have e : ((d + 1 : Nat) : Int) - 1 = (d : Int) := by omega
    rw [e]
    refine turnK (t15_3 l at_ hs L _ _) ?_
    have hwr : IntKind.i64.wrap ((d : Int) - 1) = (d : Int) - 1 := by rw [wrap64] <;> omega
    have hok : (U.lc at_ d).ok := hat _ (by unfold U.lc; rw [List.getD_eq_getElem?_getD, List.getElem?_eq_getElem hd1]; exact List.getElem_mem hd1)
    rw [decide_eq_true (by omega), hwr, Int.toNat_natCast, rowL hd1, getL hd1, rowI hd2, getI hd2]
    simp only [rdI, List.getD_cons_zero, List.getD_cons_succ, int_goI]
    exact ⟨⟨by omega, by trivial⟩, ⟨by omega, by trivial⟩, good2 hok.1 hok.2, ih⟩
theorem lc_ok {at_ : List Loc} (hat : ∀ x ∈ at_, x.ok) {d : Nat} (h : d < at_.length) : (U.lc at_ d).ok := hat _ (by unfold U.lc; rw [List.getD_eq_getElem?_getD, List.getElem?_eq_getElem h]; exact List.getElem_mem h)
theorem loop15_9 (l : List Mv) (at_ : List Loc) (hs : List Int) (hat : ∀ x ∈ at_, x.ok) (hl : at_.length < 1000000) (o : List (List AV)) (n : Nat) : ∀ (d i : Nat) (L : List (List Int × Value)), i + d = max i at_.length → hs.length ≤ i → MapIs L (U.ini at_ hs) →
    ∃ L', MapIs L' (U.ini at_ hs) ∧ LoopTo Try.prog H (H 15) 0 (loopOf Try.prog 15 9) (mkS 96 [(0, .sl (l.map encM)), (1, .sl (at_.map encL)), (7, .mp 0), (9, .os 3 0 n), (10, goI i)] [.map kd2 L, .dead, .dead, .arr 1 o])
      (.exit 2, mkS 96 [(0, .sl (l.map encM)), (1, .sl (at_.map encL)), (7, .mp 0), (9, .os 3 0 n)] [.map kd2 L', .dead, .dead, .arr 1 o])
  | 0, i, L, hd, hh, hL => ⟨L, hL, by
    refine turnK (t15_9 l at_ 0 n o L i _) ?_
    rw [List.length_map, decide_eq_false (by omega)]
    exact rfl⟩
  | d + 1, i, L, hd, hh, hL => by
    have hi : i < at_.length := by omega
    have h30 := wf30 at_ (U.lc at_ i) hl
    have hok := lc_ok hat hi
    by_cases hx : U.idx at_ (U.lc at_ i) = i
    · obtain ⟨L', hL', ih⟩ := loop15_9 l at_ hs hat hl o n d (i + 1) (updL [(U.lc at_ i).k, (U.lc at_ i).n] (.int .i64 0) L) (by omega) (by omega) ((hL.upd _ _).congr (fun x => by
        split
        · rename_i h; subst h
          unfold U.ini U.iniFrom
          have e : U.firstOf (fun j => decide (U.lc at_ j = U.lc at_ i)) (at_.length - 0) 0 = i := hx
          rw [e]
          unfold U.nt
          rw [List.getD_eq_getElem?_getD, List.getElem?_eq_none (by omega)]
          simp
        · rfl))
      refine ⟨L', hL', ?_⟩
      refine turnK (t15_9 l at_ (U.idx at_ (U.lc at_ i)) n o L i _) ?_
      rw [List.length_map, decide_eq_true (by omega), wrapS hi hl, rowL hi, getL hi, hx, beq_self_eq_true]
      rw [hx] at h30
      simp only [rdI, List.getD_cons_zero, List.getD_cons_succ, int_goI]
      exact ⟨⟨by omega, by trivial⟩, h30, ⟨by omega, by trivial⟩, good2 hok.1 hok.2, ih⟩
    · obtain ⟨L', hL', ih⟩ := loop15_9 l at_ hs hat hl o n d (i + 1) L (by omega) (by omega) hL
      refine ⟨L', hL', ?_⟩
      refine turnK (t15_9 l at_ (U.idx at_ (U.lc at_ i)) n o L i _) ?_
      rw [List.length_map, decide_eq_true (by omega), wrapS hi hl, rowL hi, getL hi, beq_eq_false_iff_ne.2 hx]
      simp only [rdI, List.getD_cons_zero, List.getD_cons_succ, int_goI]
      exact ⟨⟨by omega, by trivial⟩, h30, ih⟩
theorem loop15_14 (l : List Mv) (at_ : List Loc) (hw : ∀ m ∈ l, m.ok) (hl : l.length < 1000000) (o : List (List AV)) (n : Nat) : ∀ (d i : Nat) (L : List (List Int × Value)) (S : Loc → Int), i + d = l.length → MapIs L S →
    ∃ L', MapIs L' ((l.drop i).foldl U.mv1 S) ∧ LoopTo Try.prog H (H 15) 0 (loopOf Try.prog 15 14) (mkS 96 [(1, .sl (at_.map encL)), (7, .mp 0), (9, .os 3 0 n), (62, .sl (l.map encM)), (63, goI l.length), (64, goI i)] [.map kd2 L, .dead, .dead, .arr 1 o])
      (.exit 4, mkS 96 [(1, .sl (at_.map encL)), (7, .mp 0), (9, .os 3 0 n)] [.map kd2 L', .dead, .dead, .arr 1 o])
  | 0, i, L, S, hd, hL => ⟨L, by rw [List.drop_eq_nil_of_le (by omega)]; exact hL, by
    refine turnK (t15_14 l at_ n o L i _) ?_
    rw [decide_eq_false (by omega)]
    exact rfl⟩
  | d + 1, i, L, S, hd, hL => by
    have hi : i < l.length := by omega
    have hok := to_ok hw hi
    obtain ⟨L', hL', ih⟩ := loop15_14 l at_ hw hl o n d (i + 1) (updL [(U.to l i).k, (U.to l i).n] (.int .i64 (S (U.fr l i))) L) (U.mv1 S (l.getD i default)) (by omega) (hL.upd _ _)
    refine ⟨L', by rw [drop_cons l hi]; exact hL', ?_⟩
    refine turnK (t15_14 l at_ n o L i _) ?_
    rw [decide_eq_true (by omega), wrapS hi hl, row13 hi, map13 hi]
    have h1 := hL (U.fr l i)
    simp only [rdI, List.getD_cons_zero, List.getD_cons_succ, int_goI, h1, int_v]
    exact ⟨⟨by omega, by trivial⟩, good2 hok.2.1 hok.2.2, by trivial, good2 hok.1.1 hok.1.2, ih⟩
theorem outG_step (S : Loc → Int) (at_ : List Loc) (hs : List Int) (i : Nat) : U.outG S at_ hs (i + 1) = fun j => if j = i ∧ U.idx at_ (U.lc at_ i) = i then S (U.lc at_ i) else U.outG S at_ hs i j := by
  funext j
  unfold U.outG
  by_cases e : j = i
  · subst e
    by_cases h : U.idx at_ (U.lc at_ j) = j
    · rw [if_pos ⟨by omega, h⟩, if_pos ⟨rfl, h⟩]
    · rw [if_neg (fun q => h q.2), if_neg (fun q => h q.2), if_neg (fun q => h q.2)]
  · rw [if_neg (fun (q : j = i ∧ _) => e q.1)]
    by_cases h : j < i
    · by_cases h2 : U.idx at_ (U.lc at_ j) = j
      · rw [if_pos ⟨by omega, h2⟩, if_pos ⟨h, h2⟩]
      · rw [if_neg (fun q => h2 q.2), if_neg (fun q => h2 q.2)]
    · rw [if_neg (fun q => by omega), if_neg (fun q => h q.1)]
theorem loop15_19 (at_ : List Loc) (hs : List Int) (hat : ∀ x ∈ at_, x.ok) (hl : at_.length < 1000000) (L : List (List Int × Value)) (S : Loc → Int) (hL : MapIs L S) : ∀ (d i : Nat), i + d = at_.length →
    LoopTo Try.prog H (H 15) 0 (loopOf Try.prog 15 19) (mkS 96 [(1, .sl (at_.map encL)), (7, .mp 0), (9, .os 3 0 at_.length), (76, .sl (at_.map encL)), (77, goI at_.length), (78, goI i)] [.map kd2 L, .dead, .dead, .arr 1 (outAt (U.outG S at_ hs i) at_.length)])
      (.exit 6, mkS 96 [(9, .os 3 0 at_.length)] [.dead, .dead, .dead, .arr 1 (outAt (U.outG S at_ hs at_.length) at_.length)])
  | 0, i, hd => by
    refine turnK (t15_19 at_ 0 _ _ L i _) ?_
    have hi : i = at_.length := by omega
    subst hi
    rw [decide_eq_false (by omega)]
    exact rfl
  | d + 1, i, hd => by
    have hi : i < at_.length := by omega
    have ih := loop15_19 at_ hs hat hl L S hL d (i + 1) (by omega)
    have h30 := wf30 at_ (U.lc at_ i) hl
    have hok := lc_ok hat hi
    have h1 := hL (U.lc at_ i)
    refine turnK (t15_19 at_ (U.idx at_ (U.lc at_ i)) _ _ L i _) ?_
    rw [decide_eq_true (by omega), wrapS hi hl, rowL hi, getL hi]
    rw [outG_step] at ih
    by_cases hx : U.idx at_ (U.lc at_ i) = i
    · rw [hx] at h30
      simp only [hx, and_true] at ih
      rw [hx, beq_self_eq_true]
      simp only [rdI, List.getD_cons_zero, List.getD_cons_succ, int_goI, h1, int_v, Nat.zero_add]
      refine ⟨⟨by omega, by trivial⟩, h30, good2 hok.1 hok.2, by trivial, ⟨by omega, by omega, by rw [outAt_len]; exact hi⟩, by rw [outAt_get _ hi]; rfl, ?_⟩
      rw [outAt_set]
      exact ih
    · simp only [hx, and_false, if_false] at ih
      rw [beq_eq_false_iff_ne.2 hx]
      simp only [rdI, List.getD_cons_zero, List.getD_cons_succ, int_goI, h1, int_v]
      exact ⟨⟨by omega, by trivial⟩, h30, ih⟩
theorem copied (hs : List Int) (n : Nat) : ([] ++ List.take n (hs.map encI) ++ List.drop (0 + min hs.length n) (List.replicate n [goI 0])) = outAt (U.nt hs) n := by
  apply List.ext_getElem?
  intro j
  rw [List.nil_append, Nat.zero_add, List.getElem?_append, List.length_take, List.length_map]
  by_cases hj : j < n
  · rw [outAt_get _ hj]
    split
    · rw [List.getElem?_take, if_pos hj, getI (by omega)]
    · rw [List.getElem?_drop, List.getElem?_replicate, if_pos (by omega)]
      unfold U.nt
      rw [List.getD_eq_getElem?_getD, List.getElem?_eq_none (by omega)]
      rfl
  · rw [if_neg (by omega), List.getElem?_drop, List.getElem?_replicate, if_neg (by omega), List.getElem?_eq_none (by rw [outAt_len]; omega)]
theorem ini_min (at_ : List Loc) (hs : List Int) (x : Loc) : U.iniFrom at_ hs (min at_.length hs.length) 0 x = U.ini at_ hs x := by
  have gen : ∀ (d k : Nat), U.iniFrom at_ hs (min at_.length hs.length) k x = U.iniFrom at_ hs at_.length k x ∨ k + d < min at_.length hs.length := by
    intro d
    induction d with
    | zero =>
      intro k
      by_cases hk : k < min at_.length hs.length
      · exact .inr hk
      · left
        have e0 : U.iniFrom at_ hs (min at_.length hs.length) k x = 0 := by
          unfold U.iniFrom
          rw [show min at_.length hs.length - k = 0 from by omega]
          exact if_neg (by simp [U.firstOf])
        rw [e0]
        unfold U.iniFrom
        by_cases h0 : 0 ≤ U.firstOf (fun j => decide (U.lc at_ j = x)) (at_.length - k) k
        · rw [if_pos h0]
          obtain ⟨w, hw, h1, h2, _⟩ := firstOf_val _ _ _ h0
          rw [hw, Int.toNat_natCast]
          unfold U.nt
          rw [List.getD_eq_getElem?_getD, List.getElem?_eq_none (by omega)]
          rfl
        · rw [if_neg h0]
    | succ d ih =>
      intro k
      by_cases hk : k < min at_.length hs.length
      · rw [iniFrom_step at_ hs hk, iniFrom_step at_ hs (show k < at_.length by omega)]
        rcases ih (k + 1) with h | h
        · left; rw [h]
        · right; omega
      · rcases ih k with h | h
        · left; exact h
        · omega
  rcases gen (min at_.length hs.length) 0 with h | h
  · exact h
  · omega
theorem wf15 (l : List Mv) (at_ : List Loc) (hs : List Int) (hw : ∀ m ∈ l, m.ok) (hat : ∀ x ∈ at_, x.ok) (hl : l.length < 1000000) (hl2 : at_.length < 1000000) (hl3 : hs.length < 1000000) : Wf Try.prog H 15 [.sl (l.map encM), .sl (at_.map encL), .sl (hs.map encI)] [] = some (.os 0 0 at_.length, [.arr 1 ((U.play l at_ hs).map encI)], []) := by
  obtain ⟨L1, hL1, h3⟩ := loop15_3 l at_ hs hat hl2 (min at_.length hs.length) (min at_.length hs.length) [] (by omega) (by omega) (Nat.le_refl _) (fun x => by
    unfold U.iniFrom
    rw [Nat.sub_self, if_neg (by simp [U.firstOf])]
    rfl)
  have hL1' : MapIs L1 (U.ini at_ hs) := hL1.congr (fun x => ini_min at_ hs x)
  obtain ⟨L2, hL2, h9⟩ := loop15_9 l at_ hs hat hl2 (outAt (U.nt hs) at_.length) at_.length (at_.length - hs.length) hs.length L1 (by omega) (Nat.le_refl _) hL1'
  obtain ⟨L3, hL3, h14⟩ := loop15_14 l at_ hw hl (outAt (U.nt hs) at_.length) at_.length l.length 0 L2 _ (by omega) hL2
  rw [List.drop_zero] at hL3
  have h19 := loop15_19 at_ hs hat hl2 L3 _ hL3 at_.length 0 (by omega)
  have e0 : outAt (U.outG (l.foldl U.mv1 (U.ini at_ hs)) at_ hs 0) at_.length = outAt (U.nt hs) at_.length := outAt_congr (fun j _ => if_neg (fun q => by omega))
  rw [e0] at h19
  have ep : (U.play l at_ hs).map encI = outAt (U.outG (l.foldl U.mv1 (U.ini at_ hs)) at_ hs at_.length) at_.length := by
    unfold U.play outAt
    rw [List.map_map]
    rfl
  rw [ep]
  refine runK (t15 l at_ hs L1 L2 L3 at_.length (outAt (U.nt hs) at_.length) (outAt (U.outG (l.foldl U.mv1 (U.ini at_ hs)) at_ hs at_.length) at_.length) _) ?_
  simp only [List.length_map, List.length_replicate, Bool.false_eq_true, if_false, copied]
  have em : IntKind.i64.wrap ((if (hs.length : Int) < (at_.length : Int) then (hs.length : Int) else (at_.length : Int)) - 1) = ((min at_.length hs.length : Nat) : Int) - 1 := by
    rw [wrap64] <;> split <;> omega
  rw [em]
  exact ⟨h3, ⟨by omega, by omega, by omega⟩, by simp [rowsOk, encI], h9, h14, h19, trivial⟩
end Go.Proofs.Ythbkemkjkpaoaab.E
