-- Written by xprint.py, a program of this session, for this claim: contracts of the functions that the law reaches.
import Derived.Test.YthbkemkjkpaoaaaXWf
import Derived.Test.YthbkemkjkpaoaaaXx7
namespace Go.Proofs.Ythbkemkjkpaoaaa.X
open Go.RowKit Go.Proofs.YthbkemkjkpaoaaaW.PrintWords Go.Proofs.YthbkemkjkpaoaaaW.PrintLast Go.Proofs.YthbkemkjkpaoaaaW.PrintMore
attribute [local go_sem] max2_int min2_int max_two min_two max_three min_three max_four min_four   -- for this text's walks alone
set_option linter.unusedVariables false
set_option linter.unusedSimpArgs false

open Wf
/-- The one plain statement that is left of the law. -/
def portolanlaw02_BitsetLaws.Pure : Prop := ∀ (l0 : List Int) (l1 : List Int) (l2 : List Int), (l0.length ≤ maxLen ∧ ∀ y ∈ l0, (Lit.int .u64 y).wf = true) → (l1.length ≤ maxLen ∧ ∀ y ∈ l1, (Lit.int .u64 y).wf = true) → (l2.length ≤ maxLen ∧ ∀ y ∈ l2, (Lit.int .u64 y).wf = true) → ∃ k, portolanlaw02_BitsetLaws.f k l0 l1 l2 = some true
end Go.Proofs.Ythbkemkjkpaoaaa.X
