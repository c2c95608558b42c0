/- Functions, by what the evaluator asks; the theorems t.. were printed by show.txt, a program of this session. -/
import Derived.Test.Ytabdcfcnngnnoaa06f
set_option linter.unusedVariables false
set_option linter.unusedSectionVars false
set_option linter.unusedSimpArgs false
set_option maxRecDepth 100000
namespace Go.Proofs.Ytabdcfcnngnnoaa.E
open Go
def FN29 : CallT := fun f args sto => match f, args with
 | 32, _ => .is (.os 0 0 4, [.arr 1 ([-1, 0, 0, 0].map encI)], [])
 | 31, [_, .v (.int _ a), _] => .is (goB (decide (a = 0)), [], [])
 | 36, _ => .is (goI 0, [], [])
 | 14, _ => .is (goB true, [], [])
 | _, _ => .no

theorem tn29 (r : AV × List Row × List Nat) : (runT Try.prog H FN29 L0 false 29 [] [] fun q => q = r) = (Wf Try.prog H 32
 [AV.agg
 [AV.sl [[goI 0]], AV.sl [[goI (-1)]], goI 0, goI 0,
 AV.sl
 [[AV.sl [[goI 22, goI 0, goI 0, goI 0, goI 1, goI 2, AV.sl []]]],
 [AV.sl [[goI 21, goI 0, goI 0, goI 0, goI 3, goI 0, AV.sl []]]],
 [AV.sl [[goI 21, goI 0, goI 0, goI 0, goI 3, goI 0, AV.sl []]]],
 [AV.sl [[goI 23, goI 0, goI 0, goI 0, goI 0, goI 0, AV.sl []]]]]]]
 [] =
 some (AV.os 0 0 4, [Row.arr 1 [[goI (-1)], [goI 0], [goI 0], [goI 0]]], []) ∧
 Wf Try.prog H 14 [AV.sl [[goI (-1)], [goI 0], [goI 0], [goI 0]], AV.sl [[goI (-1)], [goI 0], [goI 0], [goI 0]]] [] =
 some (goB true, [], []) ∧
 Wf Try.prog H 31
 [AV.agg
 [AV.sl [[goI 0]], AV.sl [[goI (-1)]], goI 0, goI 0,
 AV.sl
 [[AV.sl [[goI 22, goI 0, goI 0, goI 0, goI 1, goI 2, AV.sl []]]],
 [AV.sl [[goI 21, goI 0, goI 0, goI 0, goI 3, goI 0, AV.sl []]]],
 [AV.sl [[goI 21, goI 0, goI 0, goI 0, goI 3, goI 0, AV.sl []]]],
 [AV.sl [[goI 23, goI 0, goI 0, goI 0, goI 0, goI 0, AV.sl []]]]]],
 goI 0, goI 3]
 [] =
 some (goB true, [], []) ∧
 Wf Try.prog H 31
 [AV.agg
 [AV.sl [[goI 0]], AV.sl [[goI (-1)]], goI 0, goI 0,
 AV.sl
 [[AV.sl [[goI 22, goI 0, goI 0, goI 0, goI 1, goI 2, AV.sl []]]],
 [AV.sl [[goI 21, goI 0, goI 0, goI 0, goI 3, goI 0, AV.sl []]]],
 [AV.sl [[goI 21, goI 0, goI 0, goI 0, goI 3, goI 0, AV.sl []]]],
 [AV.sl [[goI 23, goI 0, goI 0, goI 0, goI 0, goI 0, AV.sl []]]]]],
 goI 1, goI 3]
 [] =
 some (goB false, [], []) ∧
 Wf Try.prog H 36
 [AV.agg
 [AV.sl [[goI 0]], AV.sl [[goI (-1)]], goI 0, goI 0,
 AV.sl
 [[AV.sl [[goI 22, goI 0, goI 0, goI 0, goI 1, goI 2, AV.sl []]]],
 [AV.sl [[goI 21, goI 0, goI 0, goI 0, goI 3, goI 0, AV.sl []]]],
 [AV.sl [[goI 21, goI 0, goI 0, goI 0, goI 3, goI 0, AV.sl []]]],
 [AV.sl [[goI 23, goI 0, goI 0, goI 0, goI 0, goI 0, AV.sl []]]]]],
 goI 1, goI 3]
 [] =
 some (goI 0, [], []) ∧
 (goB true, [], []) = r) := by kernel_rfl
end Go.Proofs.Ytabdcfcnngnnoaa.E
