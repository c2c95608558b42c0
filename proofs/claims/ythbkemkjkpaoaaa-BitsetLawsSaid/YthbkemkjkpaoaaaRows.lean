/-
  No cell of these rows narrows 'for every input' (looked for: loops, veiled, ifaces, maps, wideKeys, modest, calm, conditions, laid).
  DERIVED. THE GIVEN ROWS OF THIS SEAT. 3 by the template 'for every input the law returns true; each argument reads behind the call as it read before'; 0 by the template 'total and deterministic' (their statements: YthbkemkjkpaoaaaTotals.lean).
  GIVEN WITH THE SEED: the statements are not yours to turn. If you find one false, say at which input.
  Laid BY PROGRAM, IN A SANDBOX (cutbox-rows.mjs): the forced cells as the released guide's own fill.sh prints them over the translation 2f5e925c92efd733… (all of the seat's roots in one cut). By AI agents, Wed Nov 11 2026. No macro, syntax, notation, axiom, sorry.
-/
import Derived.Test.YthbkemkjkpaoaaaChecked
import GoSem.Claim
import GoSem.ClaimJoined
import GoSem.ClaimMapViews
import Derived.JoinedTies
import Derived.KernelRfl
namespace Go.Proofs.Ythbkemkjkpaoaaa
/- THE CELL 'sum', in the pinned program and in every row, IS THE sha256 OF THE DUMP (.gsa) THAT YthbkemkjkpaoaaaProg.lean LOADS. Nothing in Lean hashes anything: it is a label: what it is worth is what the hold of that sum in a sandbox is worth. -/
noncomputable def Try.pinned : Pinned := { name := "ythbkemkjkpaoaaa", sum := "2f5e925c92efd733e3492f66e42ac147e250786bb6966cd630aa2aaf40c63c2b", checked := Try.checked }
namespace Rows
def none {H : Type} : Left H := { results := [], args := [] }

/-- 'portolanlaw02.BitsetAdds': WHATEVER THE INPUT: true; the input reads as it did. -/
def bitsetAddsSpec : ChangeSpec := { name := "bitsetAdds", fn := fun _ => fun
  | [d1, d2, d3] => { results := [.lit (.bool true)], args := [d1, d2, d3] }
  | _ => none }
def bitsetAddsRow : OpenClaim := { program := "ythbkemkjkpaoaaa", sum := "2f5e925c92efd733e3492f66e42ac147e250786bb6966cd630aa2aaf40c63c2b", func := "portolan/portolanlaw02.BitsetAdds", spec := "bitsetAdds", apart := false }
def BitsetAddsSaid : Prop := bitsetAddsRow.holds Try.pinned (OpenSpec.ofChange bitsetAddsSpec)

/-- ITS FALSE NEIGHBOUR: 'it returns false'. Refute it at one input. -/
def bitsetAddsWrong : ChangeSpec := { name := "bitsetAdds", fn := fun _ => fun
  | [d1, d2, d3] => { results := [.lit (.bool false)], args := [d1, d2, d3] }
  | _ => none }
def BitsetAddsWrongFalsely : Prop := bitsetAddsRow.holds Try.pinned (OpenSpec.ofChange bitsetAddsWrong)

/-- 'portolanlaw02.BitsetBoth': WHATEVER THE INPUT: true; the input reads as it did. -/
def bitsetBothSpec : ChangeSpec := { name := "bitsetBoth", fn := fun _ => fun
  | [d1, d2] => { results := [.lit (.bool true)], args := [d1, d2] }
  | _ => none }
def bitsetBothRow : OpenClaim := { program := "ythbkemkjkpaoaaa", sum := "2f5e925c92efd733e3492f66e42ac147e250786bb6966cd630aa2aaf40c63c2b", func := "portolan/portolanlaw02.BitsetBoth", spec := "bitsetBoth", unfollowed := true, recurses := true, apart := false }
def BitsetBothSaid : Prop := bitsetBothRow.holds Try.pinned (OpenSpec.ofChange bitsetBothSpec)

/-- ITS FALSE NEIGHBOUR: 'it returns false'. Refute it at one input. -/
def bitsetBothWrong : ChangeSpec := { name := "bitsetBoth", fn := fun _ => fun
  | [d1, d2] => { results := [.lit (.bool false)], args := [d1, d2] }
  | _ => none }
def BitsetBothWrongFalsely : Prop := bitsetBothRow.holds Try.pinned (OpenSpec.ofChange bitsetBothWrong)

/-- 'portolanlaw02.BitsetLaws': WHATEVER THE INPUT: true; the input reads as it did. -/
def bitsetLawsSpec : ChangeSpec := { name := "bitsetLaws", fn := fun _ => fun
  | [d1, d2, d3] => { results := [.lit (.bool true)], args := [d1, d2, d3] }
  | _ => none }
def bitsetLawsRow : OpenClaim := { program := "ythbkemkjkpaoaaa", sum := "2f5e925c92efd733e3492f66e42ac147e250786bb6966cd630aa2aaf40c63c2b", func := "portolan/portolanlaw02.BitsetLaws", spec := "bitsetLaws", unfollowed := true, recurses := true, apart := false }
def BitsetLawsSaid : Prop := bitsetLawsRow.holds Try.pinned (OpenSpec.ofChange bitsetLawsSpec)

/-- ITS FALSE NEIGHBOUR: 'it returns false'. Refute it at one input. -/
def bitsetLawsWrong : ChangeSpec := { name := "bitsetLaws", fn := fun _ => fun
  | [d1, d2, d3] => { results := [.lit (.bool false)], args := [d1, d2, d3] }
  | _ => none }
def BitsetLawsWrongFalsely : Prop := bitsetLawsRow.holds Try.pinned (OpenSpec.ofChange bitsetLawsWrong)

/- THE SECOND FORM. 'bulk': how many values and letters a reading holds, each counted each time it is reached (what is shared counts as often as it is met; a slice's spare places count too). A statement '..UptoSaid' is the law's where the arguments, and the package variables that the reading takes, are together of bulk at most 1048576: NARROWER than '..Said'. Prove '..Said' where nothing that the law and all that it calls make is longer than what came in: it says more and counts as full. Else prove '..UptoSaid'. A law counts once. -/
mutual
def uptoBulk {H : Type} : DataW H → Nat
  | .lit (.string bytes) => bytes.length + 1
  | .lit _ => 1
  | .nil => 1
  | .ptr d => uptoBulk d + 1
  | .slice elems spare => uptoBulkAll elems + uptoBulkAll spare + 1
  | .agg parts => uptoBulkAll parts + 1
  | .iface _ d => uptoBulk d + 1
  | .map entries => uptoBulkEntries entries + 1
  | .held _ => 1
def uptoBulkAll {H : Type} : List (DataW H) → Nat
  | [] => 0
  | d :: r => uptoBulk d + uptoBulkAll r
def uptoBulkEntries {H : Type} : List (Lit × DataW H) → Nat
  | [] => 0
  | x :: r => uptoBulkEntry x + uptoBulkEntries r
def uptoBulkEntry {H : Type} : Lit × DataW H → Nat
  | (.string bytes, d) => bytes.length + uptoBulk d + 1
  | (_, d) => uptoBulk d + 1
 end
def uptoSmall : (H : Type) → List (DataW H) → Bool := fun _ ds => decide (uptoBulkAll ds ≤ 1048576)
def OpenSpec.upto (s : _root_.Go.ChangeSpec) : _root_.Go.OpenSpec := { _root_.Go.OpenSpec.ofChange s with cond := some uptoSmall }

/-- 'portolanlaw02.BitsetAdds', WHERE WHAT IT READS IS OF BULK AT MOST 1048576: true; the input reads as it did. -/
def bitsetAddsUptoRow : OpenClaim := { program := "ythbkemkjkpaoaaa", sum := "2f5e925c92efd733e3492f66e42ac147e250786bb6966cd630aa2aaf40c63c2b", func := "portolan/portolanlaw02.BitsetAdds", spec := "bitsetAdds", apart := false, narrowed := true }
def BitsetAddsUptoSaid : Prop := bitsetAddsUptoRow.holds Try.pinned (OpenSpec.upto bitsetAddsSpec)

/-- 'portolanlaw02.BitsetBoth', WHERE WHAT IT READS IS OF BULK AT MOST 1048576: true; the input reads as it did. -/
def bitsetBothUptoRow : OpenClaim := { program := "ythbkemkjkpaoaaa", sum := "2f5e925c92efd733e3492f66e42ac147e250786bb6966cd630aa2aaf40c63c2b", func := "portolan/portolanlaw02.BitsetBoth", spec := "bitsetBoth", unfollowed := true, recurses := true, apart := false, narrowed := true }
def BitsetBothUptoSaid : Prop := bitsetBothUptoRow.holds Try.pinned (OpenSpec.upto bitsetBothSpec)

/-- 'portolanlaw02.BitsetLaws', WHERE WHAT IT READS IS OF BULK AT MOST 1048576: true; the input reads as it did. -/
def bitsetLawsUptoRow : OpenClaim := { program := "ythbkemkjkpaoaaa", sum := "2f5e925c92efd733e3492f66e42ac147e250786bb6966cd630aa2aaf40c63c2b", func := "portolan/portolanlaw02.BitsetLaws", spec := "bitsetLaws", unfollowed := true, recurses := true, apart := false, narrowed := true }
def BitsetLawsUptoSaid : Prop := bitsetLawsUptoRow.holds Try.pinned (OpenSpec.upto bitsetLawsSpec)

end Rows
end Go.Proofs.Ythbkemkjkpaoaaa
