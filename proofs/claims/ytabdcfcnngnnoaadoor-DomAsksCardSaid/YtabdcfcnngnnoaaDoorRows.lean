/-
  NARROWER THAN 'FOR EVERY INPUT', by the rows' own cells (each row's printed sentence says how): DomAsks: laid · LoopEdges: laid · LoopBodies: laid · LoopRound: laid · LoopDeep: laid · LoopNested: laid.
  DERIVED. THE GIVEN ROWS OF THIS SEAT. 6 by the template 'for every input the law returns true; each argument reads behind the call as it read before'; 0 by the template 'total and deterministic' (their statements: YtabdcfcnngnnoaaDoorTotals.lean).
  GIVEN WITH THE SEED: the statements are not yours to turn. If you find one false, say at which input.
  Laid BY PROGRAM, IN A SANDBOX (cutbox-rows.mjs): the forced cells as the released guide's own fill.sh prints them over the translation a5b947d13e1cc2a7… (all of the seat's roots in one cut). By AI agents, Wed Nov 11 2026. No macro, syntax, notation, axiom, sorry.
-/
import Derived.Test.YtabdcfcnngnnoaaDoorChecked
import GoSem.Claim
import GoSem.ClaimJoined
import GoSem.ClaimMapViews
import Derived.JoinedTies
import Derived.KernelRfl
namespace Go.Proofs.YtabdcfcnngnnoaaDoor
/- THE CELL 'sum', in the pinned program and in every row, IS THE sha256 OF THE DUMP (.gsa) THAT YtabdcfcnngnnoaaDoorProg.lean LOADS. Nothing in Lean hashes anything: it is a label: what it is worth is what the hold of that sum in a sandbox is worth. -/
noncomputable def Tryd.pinned : Pinned := { name := "ytabdcfcnngnnoaadoor", sum := "a5b947d13e1cc2a7b6840c7b7a8f1303cc5085e5b9be004ecec160f97827084a", checked := Tryd.checked }
namespace Rows
def none {H : Type} : Left H := { results := [], args := [] }

/- WHAT THE LISTED PACKAGE-LEVEL VARIABLES READ AS WHEN THE CALL BEGINS. Each datum BY PROGRAM (the guide's laid-datum.mjs) off the statement by which the dump's own 'gosem.cut.vars' lays the variable. In a bare row this is a premise. The card (YtabdcfcnngnnoaaDoorCards.lean) ties it to the program's text. -/
def laid_math_bits_deBruijn64tab {H : Type} : DataW H := .agg [.lit (.int .u8 0), .lit (.int .u8 1), .lit (.int .u8 56), .lit (.int .u8 2), .lit (.int .u8 57), .lit (.int .u8 49), .lit (.int .u8 28), .lit (.int .u8 3), .lit (.int .u8 61), .lit (.int .u8 58), .lit (.int .u8 42), .lit (.int .u8 50), .lit (.int .u8 38), .lit (.int .u8 29), .lit (.int .u8 17), .lit (.int .u8 4), .lit (.int .u8 62), .lit (.int .u8 47), .lit (.int .u8 59), .lit (.int .u8 36), .lit (.int .u8 45), .lit (.int .u8 43), .lit (.int .u8 51), .lit (.int .u8 22), .lit (.int .u8 53), .lit (.int .u8 39), .lit (.int .u8 33), .lit (.int .u8 30), .lit (.int .u8 24), .lit (.int .u8 18), .lit (.int .u8 12), .lit (.int .u8 5), .lit (.int .u8 63), .lit (.int .u8 55), .lit (.int .u8 48), .lit (.int .u8 27), .lit (.int .u8 60), .lit (.int .u8 41), .lit (.int .u8 37), .lit (.int .u8 16), .lit (.int .u8 46), .lit (.int .u8 35), .lit (.int .u8 44), .lit (.int .u8 21), .lit (.int .u8 52), .lit (.int .u8 32), .lit (.int .u8 23), .lit (.int .u8 11), .lit (.int .u8 54), .lit (.int .u8 26), .lit (.int .u8 40), .lit (.int .u8 15), .lit (.int .u8 34), .lit (.int .u8 20), .lit (.int .u8 31), .lit (.int .u8 10), .lit (.int .u8 25), .lit (.int .u8 14), .lit (.int .u8 19), .lit (.int .u8 9), .lit (.int .u8 13), .lit (.int .u8 8), .lit (.int .u8 7), .lit (.int .u8 6)]

/-- 'portolanlaw06.DomAsks': WHATEVER THE INPUT: true; the input reads as it did. -/
def domAsksSpec : ChangeSpec := { name := "domAsks", fn := fun _ => fun
  | [d1, d2, d3] => { results := [.lit (.bool true)], args := [d1, d2, d3] }
  | _ => none }
def domAsksRow : OpenClaim := { program := "ytabdcfcnngnnoaadoor", sum := "a5b947d13e1cc2a7b6840c7b7a8f1303cc5085e5b9be004ecec160f97827084a", func := "portolan/portolanlaw06.DomAsks", spec := "domAsks", recurses := true, named := ["math/bits.deBruijn64tab"], apart := false, laid := [("math/bits.deBruijn64tab", laid_math_bits_deBruijn64tab)] }
def DomAsksSaid : Prop := domAsksRow.holds Tryd.pinned (OpenSpec.ofChange domAsksSpec)

/-- ITS FALSE NEIGHBOUR: 'it returns false'. Refute it at one input. -/
def domAsksWrong : ChangeSpec := { name := "domAsks", fn := fun _ => fun
  | [d1, d2, d3] => { results := [.lit (.bool false)], args := [d1, d2, d3] }
  | _ => none }
def DomAsksWrongFalsely : Prop := domAsksRow.holds Tryd.pinned (OpenSpec.ofChange domAsksWrong)

/-- 'portolanlaw07.LoopEdges': WHATEVER THE INPUT: true; the input reads as it did. -/
def loopEdgesSpec : ChangeSpec := { name := "loopEdges", fn := fun _ => fun
  | [d] => { results := [.lit (.bool true)], args := [d] }
  | _ => none }
def loopEdgesRow : OpenClaim := { program := "ytabdcfcnngnnoaadoor", sum := "a5b947d13e1cc2a7b6840c7b7a8f1303cc5085e5b9be004ecec160f97827084a", func := "portolan/portolanlaw07.LoopEdges", spec := "loopEdges", unfollowed := true, recurses := true, named := ["math/bits.deBruijn64tab"], apart := false, laid := [("math/bits.deBruijn64tab", laid_math_bits_deBruijn64tab)] }
def LoopEdgesSaid : Prop := loopEdgesRow.holds Tryd.pinned (OpenSpec.ofChange loopEdgesSpec)

/-- ITS FALSE NEIGHBOUR: 'it returns false'. Refute it at one input. -/
def loopEdgesWrong : ChangeSpec := { name := "loopEdges", fn := fun _ => fun
  | [d] => { results := [.lit (.bool false)], args := [d] }
  | _ => none }
def LoopEdgesWrongFalsely : Prop := loopEdgesRow.holds Tryd.pinned (OpenSpec.ofChange loopEdgesWrong)

/-- 'portolanlaw07.LoopBodies': WHATEVER THE INPUT: true; the input reads as it did. -/
def loopBodiesSpec : ChangeSpec := { name := "loopBodies", fn := fun _ => fun
  | [d1, d2] => { results := [.lit (.bool true)], args := [d1, d2] }
  | _ => none }
def loopBodiesRow : OpenClaim := { program := "ytabdcfcnngnnoaadoor", sum := "a5b947d13e1cc2a7b6840c7b7a8f1303cc5085e5b9be004ecec160f97827084a", func := "portolan/portolanlaw07.LoopBodies", spec := "loopBodies", unfollowed := true, recurses := true, named := ["math/bits.deBruijn64tab"], apart := false, laid := [("math/bits.deBruijn64tab", laid_math_bits_deBruijn64tab)] }
def LoopBodiesSaid : Prop := loopBodiesRow.holds Tryd.pinned (OpenSpec.ofChange loopBodiesSpec)

/-- ITS FALSE NEIGHBOUR: 'it returns false'. Refute it at one input. -/
def loopBodiesWrong : ChangeSpec := { name := "loopBodies", fn := fun _ => fun
  | [d1, d2] => { results := [.lit (.bool false)], args := [d1, d2] }
  | _ => none }
def LoopBodiesWrongFalsely : Prop := loopBodiesRow.holds Tryd.pinned (OpenSpec.ofChange loopBodiesWrong)

/-- 'portolanlaw07.LoopRound': WHATEVER THE INPUT: true; the input reads as it did. -/
def loopRoundSpec : ChangeSpec := { name := "loopRound", fn := fun _ => fun
  | [d] => { results := [.lit (.bool true)], args := [d] }
  | _ => none }
def loopRoundRow : OpenClaim := { program := "ytabdcfcnngnnoaadoor", sum := "a5b947d13e1cc2a7b6840c7b7a8f1303cc5085e5b9be004ecec160f97827084a", func := "portolan/portolanlaw07.LoopRound", spec := "loopRound", unfollowed := true, recurses := true, named := ["math/bits.deBruijn64tab"], apart := false, laid := [("math/bits.deBruijn64tab", laid_math_bits_deBruijn64tab)] }
def LoopRoundSaid : Prop := loopRoundRow.holds Tryd.pinned (OpenSpec.ofChange loopRoundSpec)

/-- ITS FALSE NEIGHBOUR: 'it returns false'. Refute it at one input. -/
def loopRoundWrong : ChangeSpec := { name := "loopRound", fn := fun _ => fun
  | [d] => { results := [.lit (.bool false)], args := [d] }
  | _ => none }
def LoopRoundWrongFalsely : Prop := loopRoundRow.holds Tryd.pinned (OpenSpec.ofChange loopRoundWrong)

/-- 'portolanlaw07.LoopDeep': WHATEVER THE INPUT: true; the input reads as it did. -/
def loopDeepSpec : ChangeSpec := { name := "loopDeep", fn := fun _ => fun
  | [d] => { results := [.lit (.bool true)], args := [d] }
  | _ => none }
def loopDeepRow : OpenClaim := { program := "ytabdcfcnngnnoaadoor", sum := "a5b947d13e1cc2a7b6840c7b7a8f1303cc5085e5b9be004ecec160f97827084a", func := "portolan/portolanlaw07.LoopDeep", spec := "loopDeep", unfollowed := true, recurses := true, named := ["math/bits.deBruijn64tab"], apart := false, laid := [("math/bits.deBruijn64tab", laid_math_bits_deBruijn64tab)] }
def LoopDeepSaid : Prop := loopDeepRow.holds Tryd.pinned (OpenSpec.ofChange loopDeepSpec)

/-- ITS FALSE NEIGHBOUR: 'it returns false'. Refute it at one input. -/
def loopDeepWrong : ChangeSpec := { name := "loopDeep", fn := fun _ => fun
  | [d] => { results := [.lit (.bool false)], args := [d] }
  | _ => none }
def LoopDeepWrongFalsely : Prop := loopDeepRow.holds Tryd.pinned (OpenSpec.ofChange loopDeepWrong)

/-- 'portolanlaw07.LoopNested': WHATEVER THE INPUT: true; the input reads as it did. -/
def loopNestedSpec : ChangeSpec := { name := "loopNested", fn := fun _ => fun
  | [d] => { results := [.lit (.bool true)], args := [d] }
  | _ => none }
def loopNestedRow : OpenClaim := { program := "ytabdcfcnngnnoaadoor", sum := "a5b947d13e1cc2a7b6840c7b7a8f1303cc5085e5b9be004ecec160f97827084a", func := "portolan/portolanlaw07.LoopNested", spec := "loopNested", unfollowed := true, recurses := true, named := ["math/bits.deBruijn64tab"], apart := false, laid := [("math/bits.deBruijn64tab", laid_math_bits_deBruijn64tab)] }
def LoopNestedSaid : Prop := loopNestedRow.holds Tryd.pinned (OpenSpec.ofChange loopNestedSpec)

/-- ITS FALSE NEIGHBOUR: 'it returns false'. Refute it at one input. -/
def loopNestedWrong : ChangeSpec := { name := "loopNested", fn := fun _ => fun
  | [d] => { results := [.lit (.bool false)], args := [d] }
  | _ => none }
def LoopNestedWrongFalsely : Prop := loopNestedRow.holds Tryd.pinned (OpenSpec.ofChange loopNestedWrong)

/- THE SECOND FORM. 'bulk': how many values and letters a reading holds, each counted each time it is reached (what is shared counts as often as it is met; a slice's spare places count too). A statement '..UptoSaid' is the law's where the arguments, and the package variables that the reading takes, are together of bulk at most 1048576: NARROWER than '..Said'. Prove '..Said' where nothing that the law and all that it calls make is longer than what came in: it says more and counts as full. Else prove '..UptoSaid'. A law counts once. -/
mutual
def uptoBulk {H : Type} : DataW H → Nat
  | .lit (.string bytes) => bytes.length + 1
  | .lit _ => 1
  | .nil => 1
  | .ptr d => uptoBulk d + 1
  | .slice elems spare => uptoBulkAll elems + uptoBulkAll spare + 1
  | .agg parts => uptoBulkAll parts + 1
  | .iface _ d => uptoBulk d + 1
  | .map entries => uptoBulkEntries entries + 1
  | .held _ => 1
def uptoBulkAll {H : Type} : List (DataW H) → Nat
  | [] => 0
  | d :: r => uptoBulk d + uptoBulkAll r
def uptoBulkEntries {H : Type} : List (Lit × DataW H) → Nat
  | [] => 0
  | x :: r => uptoBulkEntry x + uptoBulkEntries r
def uptoBulkEntry {H : Type} : Lit × DataW H → Nat
  | (.string bytes, d) => bytes.length + uptoBulk d + 1
  | (_, d) => uptoBulk d + 1
 end
def uptoSmall : (H : Type) → List (DataW H) → Bool := fun _ ds => decide (uptoBulkAll ds ≤ 1048576)
def OpenSpec.upto (s : _root_.Go.ChangeSpec) : _root_.Go.OpenSpec := { _root_.Go.OpenSpec.ofChange s with cond := some uptoSmall }

/-- 'portolanlaw06.DomAsks', WHERE WHAT IT READS IS OF BULK AT MOST 1048576: true; the input reads as it did. -/
def domAsksUptoRow : OpenClaim := { program := "ytabdcfcnngnnoaadoor", sum := "a5b947d13e1cc2a7b6840c7b7a8f1303cc5085e5b9be004ecec160f97827084a", func := "portolan/portolanlaw06.DomAsks", spec := "domAsks", recurses := true, named := ["math/bits.deBruijn64tab"], apart := false, laid := [("math/bits.deBruijn64tab", laid_math_bits_deBruijn64tab)], narrowed := true }
def DomAsksUptoSaid : Prop := domAsksUptoRow.holds Tryd.pinned (OpenSpec.upto domAsksSpec)

/-- 'portolanlaw07.LoopEdges', WHERE WHAT IT READS IS OF BULK AT MOST 1048576: true; the input reads as it did. -/
def loopEdgesUptoRow : OpenClaim := { program := "ytabdcfcnngnnoaadoor", sum := "a5b947d13e1cc2a7b6840c7b7a8f1303cc5085e5b9be004ecec160f97827084a", func := "portolan/portolanlaw07.LoopEdges", spec := "loopEdges", unfollowed := true, recurses := true, named := ["math/bits.deBruijn64tab"], apart := false, laid := [("math/bits.deBruijn64tab", laid_math_bits_deBruijn64tab)], narrowed := true }
def LoopEdgesUptoSaid : Prop := loopEdgesUptoRow.holds Tryd.pinned (OpenSpec.upto loopEdgesSpec)

/-- 'portolanlaw07.LoopBodies', WHERE WHAT IT READS IS OF BULK AT MOST 1048576: true; the input reads as it did. -/
def loopBodiesUptoRow : OpenClaim := { program := "ytabdcfcnngnnoaadoor", sum := "a5b947d13e1cc2a7b6840c7b7a8f1303cc5085e5b9be004ecec160f97827084a", func := "portolan/portolanlaw07.LoopBodies", spec := "loopBodies", unfollowed := true, recurses := true, named := ["math/bits.deBruijn64tab"], apart := false, laid := [("math/bits.deBruijn64tab", laid_math_bits_deBruijn64tab)], narrowed := true }
def LoopBodiesUptoSaid : Prop := loopBodiesUptoRow.holds Tryd.pinned (OpenSpec.upto loopBodiesSpec)

/-- 'portolanlaw07.LoopRound', WHERE WHAT IT READS IS OF BULK AT MOST 1048576: true; the input reads as it did. -/
def loopRoundUptoRow : OpenClaim := { program := "ytabdcfcnngnnoaadoor", sum := "a5b947d13e1cc2a7b6840c7b7a8f1303cc5085e5b9be004ecec160f97827084a", func := "portolan/portolanlaw07.LoopRound", spec := "loopRound", unfollowed := true, recurses := true, named := ["math/bits.deBruijn64tab"], apart := false, laid := [("math/bits.deBruijn64tab", laid_math_bits_deBruijn64tab)], narrowed := true }
def LoopRoundUptoSaid : Prop := loopRoundUptoRow.holds Tryd.pinned (OpenSpec.upto loopRoundSpec)

/-- 'portolanlaw07.LoopDeep', WHERE WHAT IT READS IS OF BULK AT MOST 1048576: true; the input reads as it did. -/
def loopDeepUptoRow : OpenClaim := { program := "ytabdcfcnngnnoaadoor", sum := "a5b947d13e1cc2a7b6840c7b7a8f1303cc5085e5b9be004ecec160f97827084a", func := "portolan/portolanlaw07.LoopDeep", spec := "loopDeep", unfollowed := true, recurses := true, named := ["math/bits.deBruijn64tab"], apart := false, laid := [("math/bits.deBruijn64tab", laid_math_bits_deBruijn64tab)], narrowed := true }
def LoopDeepUptoSaid : Prop := loopDeepUptoRow.holds Tryd.pinned (OpenSpec.upto loopDeepSpec)

/-- 'portolanlaw07.LoopNested', WHERE WHAT IT READS IS OF BULK AT MOST 1048576: true; the input reads as it did. -/
def loopNestedUptoRow : OpenClaim := { program := "ytabdcfcnngnnoaadoor", sum := "a5b947d13e1cc2a7b6840c7b7a8f1303cc5085e5b9be004ecec160f97827084a", func := "portolan/portolanlaw07.LoopNested", spec := "loopNested", unfollowed := true, recurses := true, named := ["math/bits.deBruijn64tab"], apart := false, laid := [("math/bits.deBruijn64tab", laid_math_bits_deBruijn64tab)], narrowed := true }
def LoopNestedUptoSaid : Prop := loopNestedUptoRow.holds Tryd.pinned (OpenSpec.upto loopNestedSpec)

end Rows
end Go.Proofs.YtabdcfcnngnnoaaDoor
