/- Functions, by what the evaluator asks; the theorems t.. were printed by show.txt, a program of this session. -/
import Derived.Test.Ythbkemkjkpaoaab17l
set_option linter.unusedVariables false
set_option linter.unusedSimpArgs false
set_option maxRecDepth 100000
namespace Go.Proofs.Ythbkemkjkpaoaab.E
open Go

theorem t29 (l : List Mv) (i : Nat) (r : AV × List Row × List Nat) : (runT Try.prog H (fun f args sto => CT.of (F0 f args sto)) L0 false 29 [AV.sl (List.map encM l), goI (↑i : Int)] []
  fun q => q = r) = (rowsOk 4 (List.map encM l) = true ∧
  (0 ≤ (↑i : Int) ∧ (↑i : Int) ≤ (↑(List.length (List.map encM l)) : Int)) ∧
    rowsOk 4 (List.drop 0 (List.take i (List.map encM l))) = true ∧
      (0 = 0 ∧ 0 + List.length (List.drop 0 (List.take i (List.map encM l))) ≤ 1000000) ∧
        rowsOk 4 (List.map encM l) = true ∧
          (0 ≤ IntKind.wrap IntKind.i64 ((↑i : Int) + 1) ∧
              IntKind.wrap IntKind.i64 ((↑i : Int) + 1) ≤ (↑(List.length (List.map encM l)) : Int)) ∧
            rowsOk 4
                  (List.drop (Int.toNat (IntKind.wrap IntKind.i64 ((↑i : Int) + 1)))
                    (List.take (List.length (List.map encM l)) (List.map encM l))) =
                true ∧
              (0 + List.length (List.drop 0 (List.take i (List.map encM l))) =
                    List.length ([] ++ List.drop 0 (List.take i (List.map encM l))) ∧
                  0 + List.length (List.drop 0 (List.take i (List.map encM l))) +
                      List.length
                        (List.drop (Int.toNat (IntKind.wrap IntKind.i64 ((↑i : Int) + 1)))
                          (List.take (List.length (List.map encM l)) (List.map encM l))) ≤
                    1000000) ∧
                (AV.os 0 0
                      (0 + List.length (List.drop 0 (List.take i (List.map encM l))) +
                        List.length
                          (List.drop (Int.toNat (IntKind.wrap IntKind.i64 ((↑i : Int) + 1)))
                            (List.take (List.length (List.map encM l)) (List.map encM l)))),
                    [Row.arr 4
                        ([] ++ List.drop 0 (List.take i (List.map encM l)) ++
                          List.drop (Int.toNat (IntKind.wrap IntKind.i64 ((↑i : Int) + 1)))
                            (List.take (List.length (List.map encM l)) (List.map encM l)))],
                    []) =
                  r) := by kernel_rfl
theorem wf29 (l : List Mv) (i : Nat) (hi : i < l.length) (hl : l.length < 1000000) : Wf Try.prog H 29 [.sl (l.map encM), goI i] [] = some (.os 0 0 (l.eraseIdx i).length, [.arr 4 ((l.eraseIdx i).map encM)], []) := by
  refine runK (t29 l i _) ?_
  have hwr : IntKind.i64.wrap ((i : Int) + 1) = ((i + 1 : Nat) : Int) := by rw [wrap64] <;> omega
  have e1 : (l.eraseIdx i).length = l.length - 1 := by rw [List.length_eraseIdx, if_pos hi]
  rw [hwr]
  have rk : ∀ L : List (List AV), (∀ r ∈ L, r ∈ l.map encM) → rowsOk 4 L = true := fun L h => by
    have h0 : rowsOk 4 (l.map encM) = true := rowsOk_map l
    unfold rowsOk at *
    exact List.all_eq_true.2 fun r hr => List.all_eq_true.1 h0 r (h r hr)
  simp only [Int.toNat_natCast, List.length_map, List.take_length, List.drop_zero, List.nil_append, List.length_take, List.length_drop, Nat.zero_add, true_and]
  refine ⟨rowsOk_map l, ⟨by omega, by omega⟩, rk _ (fun r hr => List.mem_of_mem_take hr), by omega, rowsOk_map l, ⟨by omega, by omega⟩, ?_, ?_, ?_⟩
  · refine rk _ (fun r hr => ?_)
    have := List.mem_of_mem_drop hr
    exact List.mem_of_mem_take this
  · omega
  · have e2 : List.take l.length (l.map encM) = l.map encM := List.take_of_length_le (by simp)
    have e3 : min i l.length + (min l.length l.length - (i + 1)) = l.length - 1 := by omega
    rw [e2, ← List.map_take, ← List.map_drop, ← List.map_append, ← List.eraseIdx_eq_take_drop_succ, e1, e3]
end Go.Proofs.Ythbkemkjkpaoaab.E
