/- Layer 6's fixed facts hold. -/
import Derived.Test.Ytabdcfcnngnnoaa06h
set_option linter.unusedVariables false
set_option maxRecDepth 100000
namespace Go.Proofs.Ytabdcfcnngnnoaa.E
open Go
def f4N : List AV := [AV.sl [[goI 0]], AV.sl [[goI (-1)]], goI 0, goI 0, AV.sl [[AV.sl [[goI 22, goI 0, goI 0, goI 0, goI 1, goI 2, AV.sl []]]], [AV.sl [[goI 21, goI 0, goI 0, goI 0, goI 3, goI 0, AV.sl []]]], [AV.sl [[goI 21, goI 0, goI 0, goI 0, goI 3, goI 0, AV.sl []]]], [AV.sl [[goI 23, goI 0, goI 0, goI 0, goI 0, goI 0, AV.sl []]]]]]
theorem alA : Wf Try.prog H 32 [AV.agg f4N] [] = some (AV.os 0 0 4, [Row.arr 1 [[goI (-1)], [goI 0], [goI 0], [goI 0]]], []) := Wf_at 16 (by kernel_rfl)
theorem alB : Wf Try.prog H 31 [AV.agg f4N, goI 0, goI 3] [] = some (goB true, [], []) := Wf_at 16 (by kernel_rfl)
theorem alC : Wf Try.prog H 31 [AV.agg f4N, goI 1, goI 3] [] = some (goB false, [], []) := Wf_at 16 (by kernel_rfl)
theorem alD : Wf Try.prog H 36 [AV.agg f4N, goI 1, goI 3] [] = some (goI 0, [], []) := Wf_at 16 (by kernel_rfl)
theorem wn29 : Wf Try.prog H 29 [] [] = some (goB true, [], []) := by
  have w14 := wf14 [-1, 0, 0, 0] [-1, 0, 0, 0] (by simp)
  have e : U.same [-1, 0, 0, 0] [-1, 0, 0, 0] = true := by decide
  rw [e] at w14
  exact runK (tn29 _) ⟨alA, w14, alB, alC, alD, rfl⟩
end Go.Proofs.Ytabdcfcnngnnoaa.E
