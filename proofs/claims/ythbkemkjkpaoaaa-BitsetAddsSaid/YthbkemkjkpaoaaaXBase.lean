/- Words of this session's own, beside the print's: small lemmas that its texts and ours lean on. -/
import Derived.Test.YthbkemkjkpaoaaaWWords
import Derived.Test.YthbkemkjkpaoaaaWMore
set_option linter.unusedVariables false
namespace Go.Proofs.YthbkemkjkpaoaaaW.PrintWords
open Go.RowKit
/-- A row that is read, at a length that is spelled otherwise. -/
theorem X_lenC {α : Type} {d : Kd α} {W : World} {A : Option Addr} {m n : Nat} {ys : List α} (h : n = m) (hc : Kd.C d W A n ys) : ReadsRow (d.K W) d.sz W A m ys := by
  subst h
  exact hc
end Go.Proofs.YthbkemkjkpaoaaaW.PrintWords
