-- Written by xprint.py, a program of this session, for this claim: contracts of the functions that the law reaches.
import Derived.Test.YthbkemkjkpaoaaaDoorXWf
import Derived.Test.YthbkemkjkpaoaaaDoorXx6
namespace Go.Proofs.YthbkemkjkpaoaaaDoor.X
open Go.RowKit Go.Proofs.YthbkemkjkpaoaaaDoorW.PrintWords Go.Proofs.YthbkemkjkpaoaaaDoorW.PrintLast Go.Proofs.YthbkemkjkpaoaaaDoorW.PrintMore
attribute [local go_sem] max2_int min2_int max_two min_two max_three min_three max_four min_four   -- for this text's walks alone
set_option linter.unusedVariables false
set_option linter.unusedSimpArgs false

open Wf
/-- The one plain statement that is left of the law. -/
def portolanlaw02_BitsetNumbers.Pure : Prop := ∀ (l0 : List Int) (l1 : List Int), (l0.length ≤ maxLen ∧ ∀ y ∈ l0, (Lit.int .u64 y).wf = true) → (l1.length ≤ maxLen ∧ ∀ y ∈ l1, (Lit.int .i64 y).wf = true) → ∃ k, portolanlaw02_BitsetNumbers.f k l0 l1 = some true
end Go.Proofs.YthbkemkjkpaoaaaDoor.X
