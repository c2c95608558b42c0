/- Functions, by what the evaluator asks; the theorems t.. were printed by show.txt, a program of this session. -/
import Derived.Test.Ythbkemkjkpaoaab17c
set_option linter.unusedVariables false
set_option linter.unusedSimpArgs false
set_option maxRecDepth 100000
namespace Go.Proofs.Ythbkemkjkpaoaab.E
open Go
def F0e : CallF := fun f args sto => match f, args with
 | 21, [.agg (.v (.int _ a) :: .v (.int _ b) :: .v (.int _ c) :: .v (.int _ d) :: _)] => some (goB (a == c && b == d), sto, [])
 | _, _ => none

theorem t28 (xs : List (List AV)) (n : Nat) (i : Nat) (r : AV × List Row × List Nat) : (runT Try.prog H (fun f args sto => CT.of (F0 f args sto)) L0 true 28 [AV.os 0 0 n, goI (↑i : Int), goI ((↑i : Int) + 1)]
  [Row.arr 4 xs] fun q => q = r) = ((0 ≤ (↑n : Int) ∧ (↑n : Int) ≤ (↑(List.length xs - 0) : Int)) ∧
  (0 ≤ (↑i : Int) + 1 ∧ (↑i : Int) + 1 ≤ (↑n : Int)) ∧
    (0 ≤ (↑i : Int) ∧ (↑i : Int) ≤ (↑(Int.toNat ((↑i : Int) + 1)) : Int)) ∧
      TB ((↑i : Int) == (↑i : Int) + 1) ((AV.os 0 0 n, [Row.arr 4 xs], []) = r)
        ((0 ≤ (↑i : Int) ∧ (↑i : Int) ≤ (↑(List.length xs - 0) : Int)) ∧
          (0 ≤ (↑i : Int) + 1 ∧ (↑i : Int) + 1 ≤ (↑n : Int)) ∧
            rowsOk 4 (List.take (n - Int.toNat ((↑i : Int) + 1)) (List.drop (0 + Int.toNat ((↑i : Int) + 1)) xs)) =
                true ∧
              (0 + (i - 0) +
                      List.length
                        (List.take (n - Int.toNat ((↑i : Int) + 1)) (List.drop (0 + Int.toNat ((↑i : Int) + 1)) xs)) ≤
                    List.length xs ∧
                  (0 ≠ 0 ∨
                    i - 0 ≠ List.length xs ∨
                      1000000 <
                        i - 0 +
                          List.length
                            (List.take (n - Int.toNat ((↑i : Int) + 1))
                              (List.drop (0 + Int.toNat ((↑i : Int) + 1)) xs)))) ∧
                (0 ≤ (↑n : Int) ∧
                    (↑n : Int) ≤
                      (↑(List.length
                              (List.take (0 + (i - 0)) xs ++
                                  List.take (n - Int.toNat ((↑i : Int) + 1))
                                    (List.drop (0 + Int.toNat ((↑i : Int) + 1)) xs) ++
                                List.drop
                                  (0 + (i - 0) +
                                    List.length
                                      (List.take (n - Int.toNat ((↑i : Int) + 1))
                                        (List.drop (0 + Int.toNat ((↑i : Int) + 1)) xs)))
                                  xs) -
                            0) :
                        Int)) ∧
                  (0 ≤
                        (↑(i - 0 +
                              List.length
                                (List.take (n - Int.toNat ((↑i : Int) + 1))
                                  (List.drop (0 + Int.toNat ((↑i : Int) + 1)) xs))) :
                          Int) ∧
                      (↑(i - 0 +
                              List.length
                                (List.take (n - Int.toNat ((↑i : Int) + 1))
                                  (List.drop (0 + Int.toNat ((↑i : Int) + 1)) xs))) :
                          Int) ≤
                        (↑n : Int)) ∧
                    (AV.os 0 0
                          (i - 0 +
                            List.length
                              (List.take (n - Int.toNat ((↑i : Int) + 1))
                                (List.drop (0 + Int.toNat ((↑i : Int) + 1)) xs))),
                        [Row.arr 4
                            (List.take
                                  (0 +
                                    (i - 0 +
                                      List.length
                                        (List.take (n - Int.toNat ((↑i : Int) + 1))
                                          (List.drop (0 + Int.toNat ((↑i : Int) + 1)) xs))))
                                  (List.take (0 + (i - 0)) xs ++
                                      List.take (n - Int.toNat ((↑i : Int) + 1))
                                        (List.drop (0 + Int.toNat ((↑i : Int) + 1)) xs) ++
                                    List.drop
                                      (0 + (i - 0) +
                                        List.length
                                          (List.take (n - Int.toNat ((↑i : Int) + 1))
                                            (List.drop (0 + Int.toNat ((↑i : Int) + 1)) xs)))
                                      xs) ++
                                List.replicate
                                  (n -
                                    (i - 0 +
                                      List.length
                                        (List.take (n - Int.toNat ((↑i : Int) + 1))
                                          (List.drop (0 + Int.toNat ((↑i : Int) + 1)) xs))))
                                  [goI 0, goI 0, goI 0, goI 0] ++
                              List.drop
                                (0 +
                                    (i - 0 +
                                      List.length
                                        (List.take (n - Int.toNat ((↑i : Int) + 1))
                                          (List.drop (0 + Int.toNat ((↑i : Int) + 1)) xs))) +
                                  (n -
                                    (i - 0 +
                                      List.length
                                        (List.take (n - Int.toNat ((↑i : Int) + 1))
                                          (List.drop (0 + Int.toNat ((↑i : Int) + 1)) xs)))))
                                (List.take (0 + (i - 0)) xs ++
                                    List.take (n - Int.toNat ((↑i : Int) + 1))
                                      (List.drop (0 + Int.toNat ((↑i : Int) + 1)) xs) ++
                                  List.drop
                                    (0 + (i - 0) +
                                      List.length
                                        (List.take (n - Int.toNat ((↑i : Int) + 1))
                                          (List.drop (0 + Int.toNat ((↑i : Int) + 1)) xs)))
                                    xs))],
                        []) =
                      r)) := by kernel_rfl
theorem t21 (m : Mv) (r : AV × List Row × List Nat) : (runT Try.prog H (fun f args sto => CT.of (F0 f args sto)) L0 false 21 [AV.agg (encM m)] [] fun q => q = r) = ((goB ((Mv.to m).1 == (Mv.fr m).1 && ((Mv.to m).2 == (Mv.fr m).2 && true)), [], []) = r) := by kernel_rfl
theorem t22 (m : Mv) (x : Loc) (r : AV × List Row × List Nat) : (runT Try.prog H (fun f args sto => CT.of (F0 f args sto)) L0 false 22 [AV.agg (encM m), AV.pt 0 0 0] [Row.box (encL x)]
  fun q => q = r) = (TB ((Mv.to m).1 == x.1 && ((Mv.to m).2 == x.2 && true)) ((goB true, [Row.box [goI x.1, goI x.2]], []) = r)
  ((goB ((Mv.fr m).1 == x.1 && ((Mv.fr m).2 == x.2 && true)), [Row.box [goI x.1, goI x.2]], []) = r)) := by kernel_rfl
theorem wf21 (m : Mv) : Wf Try.prog H 21 [.agg (encM m)] [] = some (goB (decide (m.to = m.fr)), [], []) := runT_ok (viaK (t21 m _) (by
  simp only [Prod.mk.injEq, goB_inj, and_true, Loc.eq_iff, Bool.and_true]
  rw [Bool.eq_iff_iff]
  simp))
theorem wf22 (m : Mv) (x : Loc) : Wf Try.prog H 22 [.agg (encM m), .pt 0 0 0] [.box (encL x)] = some (goB (decide (m.to = x ∨ m.fr = x)), [.box (encL x)], []) := runT_ok (viaK (t22 m x _) (by
  simp only [TB_iff, Prod.mk.injEq, goB_inj, and_true, Loc.eq_iff, Bool.and_true, encL, goI]
  grind))
theorem rowsOk_map (l : List Mv) : rowsOk 4 (l.map encM) = true := by simp [rowsOk, encM]
theorem rowsOk_iff {s : Nat} {xs : List (List AV)} : rowsOk s xs = true ↔ ∀ r ∈ xs, r.length = s := by simp [rowsOk]
theorem rowsOk_append {s : Nat} {xs ys : List (List AV)} (h : rowsOk s xs = true) (g : rowsOk s ys = true) : rowsOk s (xs ++ ys) = true := by
  rw [rowsOk_iff] at *
  intro r hr
  rcases List.mem_append.1 hr with h1 | h1
  · exact h r h1
  · exact g r h1
theorem rowsOk_drop {s : Nat} {xs : List (List AV)} (n : Nat) (h : rowsOk s xs = true) : rowsOk s (xs.drop n) = true := by
  rw [rowsOk_iff] at *
  exact fun r hr => h r (List.mem_of_mem_drop hr)
theorem rowsOk_take {s : Nat} {xs : List (List AV)} (n : Nat) (h : rowsOk s xs = true) : rowsOk s (xs.take n) = true := by
  rw [rowsOk_iff] at *
  exact fun r hr => h r (List.mem_of_mem_take hr)
theorem wf28 (l : List Mv) (ys : List (List AV)) (i : Nat) (hi : i < l.length) (hys : rowsOk 4 ys = true) : ∃ ys', rowsOk 4 ys' = true ∧
    Wf Try.prog H 28 [.os 0 0 l.length, goI i, goI ((i : Int) + 1)] [.arr 4 (l.map encM ++ ys)] = some (.os 0 0 (l.length - 1), [.arr 4 ((l.eraseIdx i).map encM ++ ys')], []) := by
  have hn : Int.toNat ((i : Int) + 1) = i + 1 := by omega
  have hD : List.take (l.length - (i + 1)) (List.drop (0 + (i + 1)) (l.map encM ++ ys)) = (l.drop (i + 1)).map encM := by
    rw [Nat.zero_add, List.drop_append_of_le_length (by simp; omega), List.take_append_of_le_length (by simp), List.map_drop]
    exact List.take_of_length_le (by simp)
  have hT : List.take (0 + (i - 0)) (l.map encM ++ ys) = (l.take i).map encM := by
    rw [Nat.zero_add, Nat.sub_zero, List.take_append_of_le_length (by simp; omega), List.map_take]
  have hE : (l.take i).map encM ++ (l.drop (i + 1)).map encM = (l.eraseIdx i).map encM := by rw [← List.map_append, List.eraseIdx_eq_take_drop_succ]
  have hlen : (List.map encM (l.take i) ++ List.map encM (l.drop (i + 1))).length = l.length - 1 := by simp; omega
  have hlen2 : (List.map encM (l.drop (i + 1))).length = l.length - (i + 1) := by simp
  have hx : rowsOk 4 (l.map encM ++ ys) = true := rowsOk_append (rowsOk_map l) hys
  refine ⟨?ys, ?h1, ?h2⟩
  case h2 =>
    refine runT_ok (viaK (t28 (l.map encM ++ ys) l.length i _) ?_)
    rw [hn, hD, hT, hlen2, TB_iff]
    refine ⟨⟨by omega, by simp; omega⟩, ⟨by omega, by omega⟩, ⟨by omega, by omega⟩, fun h => absurd h (by simp; omega), fun _ => ⟨⟨by omega, by simp; omega⟩, ⟨by omega, by omega⟩, rowsOk_map _, by simp; omega, ⟨by omega, by simp; omega⟩, ⟨by omega, by omega⟩, ?_⟩⟩
    have e1 : 0 + (i - 0 + (l.length - (i + 1))) = (List.map encM (l.take i) ++ List.map encM (l.drop (i + 1))).length := by rw [hlen]; omega
    have e2 : i - 0 + (l.length - (i + 1)) = l.length - 1 := by omega
    rw [e1, List.take_left, hE, e2, List.append_assoc]
  case h1 =>
    refine rowsOk_append ?_ (rowsOk_drop _ (rowsOk_append (rowsOk_map _) (rowsOk_drop _ hx)))
    rw [rowsOk_iff]
    intro r hr
    rw [List.eq_of_mem_replicate hr]
    rfl
end Go.Proofs.Ythbkemkjkpaoaab.E
