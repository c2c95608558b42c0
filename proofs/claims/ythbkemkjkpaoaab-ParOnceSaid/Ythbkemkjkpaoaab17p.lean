/- Functions, by what the evaluator asks; the theorems t.. were printed by show.txt, a program of this session. -/
import Derived.Test.Ythbkemkjkpaoaab17o
set_option linter.unusedVariables false
set_option linter.unusedSimpArgs false
set_option maxRecDepth 100000
namespace Go.Proofs.Ythbkemkjkpaoaab.E
open Go
theorem wf8 : Wf Try.prog H 8 [] [] = some (goB true, [], []) := Wf_at 60 (by kernel_rfl)
def F3 (no rg : Bool) (n : Nat) (zs : List (List AV)) : CallF := fun f args sto => match f with
 | 8 => some (goB true, [], [])
 | 9 => if no then some (.tup [.sl [], goI 1], [], []) else some (.tup [.os 0 0 n, goI 0], [.arr 4 zs], [])
 | 10 => if no then some (.tup [.sl [], goI 1], [], []) else some (.tup [.os 0 0 n, goI 0], [.arr 4 zs], [])
 | 11 => some (goB true, [], [])
 | 12 => some (goB rg, [], [])
 | 13 => some (goB rg, [], [])
 | _ => none

theorem t3a (l : List Mv) (x : Loc) (rg : Bool) (r : AV × List Row × List Nat) : (runT Try.prog H (fun f args sto => CT.of (F3 true rg 0 [] f args sto)) L0 false 3
  [AV.sl (List.map encM l), AV.agg (encL x)] [] fun q => q = r) = (Wf Try.prog H 8 [] [] = some (goB true, [], []) ∧
  TB (decide ((↑(List.length (List.map encM l)) : Int) > 60)) ((goB true, [], []) = r)
    (rowsOk 4 (List.map encM l) = true ∧
      (0 = 0 ∧ 0 + List.length (List.map encM l) ≤ 1000000) ∧
        Wf Try.prog H 9
              [AV.sl (List.take (0 + List.length (List.map encM l)) (List.drop 0 ([] ++ List.map encM l))),
                AV.agg [goI x.1, goI x.2]]
              [] =
            some (AV.tup [AV.sl [], goI 1], [], []) ∧
          Wf Try.prog H 10 [AV.sl (List.map encM l), AV.agg [goI x.1, goI x.2]] [] =
              some (AV.tup [AV.sl [], goI 1], [], []) ∧
            Wf Try.prog H 11 [AV.sl [], AV.sl []] [] = some (goB true, [], []) ∧
              Wf Try.prog H 12
                    [AV.sl (List.take (0 + List.length (List.map encM l)) (List.drop 0 ([] ++ List.map encM l)))] [] =
                  some (goB rg, [], []) ∧
                Wf Try.prog H 13 [AV.sl (List.map encM l)] [] = some (goB rg, [], []) ∧
                  TB (rg == rg)
                    (Wf Try.prog H 11
                          [AV.sl (List.take (0 + List.length (List.map encM l)) (List.drop 0 ([] ++ List.map encM l))),
                            AV.sl (List.map encM l)]
                          [] =
                        some (goB true, [], []) ∧
                      (goB true, [], []) = r)
                    ((goB false, [], []) = r))) := by kernel_rfl
theorem t3b (l : List Mv) (x : Loc) (rg : Bool) (n : Nat) (zs : List (List AV)) (r : AV × List Row × List Nat) : (runT Try.prog H (fun f args sto => CT.of (F3 false rg n zs f args sto)) L0 false 3
  [AV.sl (List.map encM l), AV.agg (encL x)] [] fun q => q = r) = (Wf Try.prog H 8 [] [] = some (goB true, [], []) ∧
  TB (decide ((↑(List.length (List.map encM l)) : Int) > 60)) ((goB true, [], []) = r)
    (rowsOk 4 (List.map encM l) = true ∧
      (0 = 0 ∧ 0 + List.length (List.map encM l) ≤ 1000000) ∧
        Wf Try.prog H 9
              [AV.sl (List.take (0 + List.length (List.map encM l)) (List.drop 0 ([] ++ List.map encM l))),
                AV.agg [goI x.1, goI x.2]]
              [] =
            some (AV.tup [AV.os 0 0 n, goI 0], [Row.arr 4 zs], []) ∧
          (List.all zs fun r => List.all r scalarA) = true ∧
            Wf Try.prog H 10 [AV.sl (List.map encM l), AV.agg [goI x.1, goI x.2]] [] =
                some (AV.tup [AV.os 0 0 n, goI 0], [Row.arr 4 zs], []) ∧
              Wf Try.prog H 11 [AV.sl (List.take n (List.drop 0 zs)), AV.sl (List.take n (List.drop 0 zs))] [] =
                  some (goB true, [], []) ∧
                Wf Try.prog H 12
                      [AV.sl (List.take (0 + List.length (List.map encM l)) (List.drop 0 ([] ++ List.map encM l)))] [] =
                    some (goB rg, [], []) ∧
                  Wf Try.prog H 13 [AV.sl (List.map encM l)] [] = some (goB rg, [], []) ∧
                    TB (rg == rg)
                      (Wf Try.prog H 11
                            [AV.sl
                                (List.take (0 + List.length (List.map encM l)) (List.drop 0 ([] ++ List.map encM l))),
                              AV.sl (List.map encM l)]
                            [] =
                          some (goB true, [], []) ∧
                        (goB true, [], []) = r)
                      ((goB false, [], []) = r))) := by kernel_rfl
theorem allSame (l : List Mv) : (decide (l.length = l.length) && U.same l l 0) = true := by
  simp [U.same, U.sameAt, allFrom_iff]
theorem wf3 (l : List Mv) (x : Loc) (hw : ∀ m ∈ l, m.ok) (hx : x.ok) : Wf Try.prog H 3 [.sl (l.map encM), .agg (encL x)] [] = some (goB true, [], []) := by
  by_cases hl : 60 < l.length
  · refine runK (t3a l x true _) ⟨wf8, ?_⟩
    rw [List.length_map, decide_eq_true (by omega)]
    rfl
  have hl' : l.length ≤ 400 := by omega
  have e1 : List.take (0 + List.length (List.map encM l)) (List.drop 0 ([] ++ List.map encM l)) = l.map encM := by
    rw [List.nil_append, List.drop_zero, Nat.zero_add, List.take_length]
  have same : ∀ K : List Mv, K.length < 1000000 → Wf Try.prog H 11 [.sl (K.map encM), .sl (K.map encM)] [] = some (goB true, [], []) := fun K hK => by
    have := wf11 K K hK
    rwa [allSame] at this
  have hlen : ¬ ((↑(List.length (List.map encM l)) : Int) > 60) := by simp; omega
  cases hr : refused l x with
  | true =>
    refine runK (t3a l x (U.right l 0) _) ⟨wf8, ?_⟩
    rw [decide_eq_false hlen, e1]
    refine ⟨rowsOk_map l, ⟨rfl, by simp; omega⟩, wf9_no l x hl' hw hr, wf10_no l x hl' hr, same [] (by simp), wf12 l (by omega) hw, wf13 l (by omega), ?_⟩
    rw [beq_self_eq_true]
    exact ⟨same l (by omega), rfl⟩
  | false =>
    have hol : (ordered l x).length < 1000000 := by
      have h1 : ∀ (f : Nat) (K o : List Mv), (ord x f K o).length ≤ o.length + f := by
        intro f
        induction f with
        | zero => intro K o; simp [ord]
        | succ f ih =>
          intro K o
          simp only [ord]
          split
          · omega
          · split
            · have := ih (K.eraseIdx (U.freeIdx K).toNat) (o ++ [K.getD (U.freeIdx K).toNat default]); simp only [List.length_append, List.length_singleton] at *; omega
            · have := ih (K.map (sub x (U.to K 0))) (o ++ [⟨x, U.to K 0⟩]); simp only [List.length_append, List.length_singleton] at *; omega
      have h2 := h1 (mu (moved l)) (moved l) []
      have hml : (moved l).length ≤ l.length := List.length_filter_le _ _
      have hmu : mu (moved l) ≤ 801 := by unfold mu; split <;> omega
      unfold ordered
      simp at h2
      omega
    have e2 : List.take (List.map encM (ordered l x)).length (List.drop 0 (List.map encM (ordered l x))) = (ordered l x).map encM := by
      rw [List.drop_zero, List.take_length]
    refine runK (t3b l x (U.right l 0) ((ordered l x).map encM).length ((ordered l x).map encM) _) ⟨wf8, ?_⟩
    rw [decide_eq_false hlen, e1, e2]
    refine ⟨rowsOk_map l, ⟨rfl, by simp; omega⟩, wf9_ok l x hl' hw hx hr, scal _, wf10_ok l x hl' hr, same _ hol, wf12 l (by omega) hw, wf13 l (by omega), ?_⟩
    rw [beq_self_eq_true]
    exact ⟨same l (by omega), rfl⟩
end Go.Proofs.Ythbkemkjkpaoaab.E
