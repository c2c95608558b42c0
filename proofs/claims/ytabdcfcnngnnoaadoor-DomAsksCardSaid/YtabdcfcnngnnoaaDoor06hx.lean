/- Functions, by what the evaluator asks; the theorems t.. were printed by show.txt, a program of this session. -/
import Derived.Test.YtabdcfcnngnnoaaDoor06f
set_option linter.unusedVariables false
set_option linter.unusedSectionVars false
set_option linter.unusedSimpArgs false
set_option maxRecDepth 100000
namespace Go.Proofs.YtabdcfcnngnnoaaDoor.E
open Go
def FN29 : CallT := fun f args sto => match f, args with
 | 35, _ => .is (.os 0 0 4, [.arr 1 ([-1, 0, 0, 0].map encI)], [])
 | 11, [_, .v (.int _ a), _] => .is (goB (decide (a = 0)), [], [])
 | 16, _ => .is (goI 0, [], [])
 | 13, _ => .is (goB true, [], [])
 | _, _ => .no

theorem tn29 (r : AV × List Row × List Nat) : (runT Tryd.prog H FN29 L0 false 9 [] [] fun q => q = r) = (Wf Tryd.prog H 35
 [AV.agg
 [AV.sl [[goI 0]], AV.sl [[goI (-1)]], goI 0, goI 0,
 AV.sl
 [[AV.sl [[goI 22, goI 0, goI 0, goI 0, goI 1, goI 2, AV.sl []]]],
 [AV.sl [[goI 21, goI 0, goI 0, goI 0, goI 3, goI 0, AV.sl []]]],
 [AV.sl [[goI 21, goI 0, goI 0, goI 0, goI 3, goI 0, AV.sl []]]],
 [AV.sl [[goI 23, goI 0, goI 0, goI 0, goI 0, goI 0, AV.sl []]]]]]]
 [] =
 some (AV.os 0 0 4, [Row.arr 1 [[goI (-1)], [goI 0], [goI 0], [goI 0]]], []) ∧
 Wf Tryd.prog H 13 [AV.sl [[goI (-1)], [goI 0], [goI 0], [goI 0]], AV.sl [[goI (-1)], [goI 0], [goI 0], [goI 0]]] [] =
 some (goB true, [], []) ∧
 Wf Tryd.prog H 11
 [AV.agg
 [AV.sl [[goI 0]], AV.sl [[goI (-1)]], goI 0, goI 0,
 AV.sl
 [[AV.sl [[goI 22, goI 0, goI 0, goI 0, goI 1, goI 2, AV.sl []]]],
 [AV.sl [[goI 21, goI 0, goI 0, goI 0, goI 3, goI 0, AV.sl []]]],
 [AV.sl [[goI 21, goI 0, goI 0, goI 0, goI 3, goI 0, AV.sl []]]],
 [AV.sl [[goI 23, goI 0, goI 0, goI 0, goI 0, goI 0, AV.sl []]]]]],
 goI 0, goI 3]
 [] =
 some (goB true, [], []) ∧
 Wf Tryd.prog H 11
 [AV.agg
 [AV.sl [[goI 0]], AV.sl [[goI (-1)]], goI 0, goI 0,
 AV.sl
 [[AV.sl [[goI 22, goI 0, goI 0, goI 0, goI 1, goI 2, AV.sl []]]],
 [AV.sl [[goI 21, goI 0, goI 0, goI 0, goI 3, goI 0, AV.sl []]]],
 [AV.sl [[goI 21, goI 0, goI 0, goI 0, goI 3, goI 0, AV.sl []]]],
 [AV.sl [[goI 23, goI 0, goI 0, goI 0, goI 0, goI 0, AV.sl []]]]]],
 goI 1, goI 3]
 [] =
 some (goB false, [], []) ∧
 Wf Tryd.prog H 16
 [AV.agg
 [AV.sl [[goI 0]], AV.sl [[goI (-1)]], goI 0, goI 0,
 AV.sl
 [[AV.sl [[goI 22, goI 0, goI 0, goI 0, goI 1, goI 2, AV.sl []]]],
 [AV.sl [[goI 21, goI 0, goI 0, goI 0, goI 3, goI 0, AV.sl []]]],
 [AV.sl [[goI 21, goI 0, goI 0, goI 0, goI 3, goI 0, AV.sl []]]],
 [AV.sl [[goI 23, goI 0, goI 0, goI 0, goI 0, goI 0, AV.sl []]]]]],
 goI 1, goI 3]
 [] =
 some (goI 0, [], []) ∧
 (goB true, [], []) = r) := by kernel_rfl
end Go.Proofs.YtabdcfcnngnnoaaDoor.E
set_option linter.unusedVariables false
set_option maxRecDepth 100000
namespace Go.Proofs.YtabdcfcnngnnoaaDoor.E
open Go
def f4N : List AV := [AV.sl [[goI 0]], AV.sl [[goI (-1)]], goI 0, goI 0, AV.sl [[AV.sl [[goI 22, goI 0, goI 0, goI 0, goI 1, goI 2, AV.sl []]]], [AV.sl [[goI 21, goI 0, goI 0, goI 0, goI 3, goI 0, AV.sl []]]], [AV.sl [[goI 21, goI 0, goI 0, goI 0, goI 3, goI 0, AV.sl []]]], [AV.sl [[goI 23, goI 0, goI 0, goI 0, goI 0, goI 0, AV.sl []]]]]]
theorem alA : Wf Tryd.prog H 35 [AV.agg f4N] [] = some (AV.os 0 0 4, [Row.arr 1 [[goI (-1)], [goI 0], [goI 0], [goI 0]]], []) := Wf_at 16 (by kernel_rfl)
theorem alB : Wf Tryd.prog H 11 [AV.agg f4N, goI 0, goI 3] [] = some (goB true, [], []) := Wf_at 16 (by kernel_rfl)
theorem alC : Wf Tryd.prog H 11 [AV.agg f4N, goI 1, goI 3] [] = some (goB false, [], []) := Wf_at 16 (by kernel_rfl)
theorem alD : Wf Tryd.prog H 16 [AV.agg f4N, goI 1, goI 3] [] = some (goI 0, [], []) := Wf_at 16 (by kernel_rfl)
theorem wn29 : Wf Tryd.prog H 9 [] [] = some (goB true, [], []) := by
  have w14 := wf14 [-1, 0, 0, 0] [-1, 0, 0, 0] (by simp)
  have e : U.same [-1, 0, 0, 0] [-1, 0, 0, 0] = true := by decide
  rw [e] at w14
  exact runK (tn29 _) ⟨alA, w14, alB, alC, alD, rfl⟩
end Go.Proofs.YtabdcfcnngnnoaaDoor.E
