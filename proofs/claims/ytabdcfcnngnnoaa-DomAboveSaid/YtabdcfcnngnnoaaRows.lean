/-
  No cell of these rows narrows 'for every input' (looked for: loops, veiled, ifaces, maps, wideKeys, modest, calm, conditions, laid).
  DERIVED. THE GIVEN ROWS OF THIS SEAT. 9 by the template 'for every input the law returns true; each argument reads behind the call as it read before'; 0 by the template 'total and deterministic' (their statements: YtabdcfcnngnnoaaTotals.lean).
  GIVEN WITH THE SEED: the statements are not yours to turn. If you find one false, say at which input.
  Laid BY PROGRAM, IN A SANDBOX (cutbox-rows.mjs): the forced cells as the released guide's own fill.sh prints them over the translation a5aae122c7e0da17… (all of the seat's roots in one cut). By AI agents, Wed Nov 11 2026. No macro, syntax, notation, axiom, sorry.
-/
import Derived.Test.YtabdcfcnngnnoaaChecked
import GoSem.Claim
import GoSem.ClaimJoined
import GoSem.ClaimMapViews
import Derived.JoinedTies
import Derived.KernelRfl
namespace Go.Proofs.Ytabdcfcnngnnoaa
/- THE CELL 'sum', in the pinned program and in every row, IS THE sha256 OF THE DUMP (.gsa) THAT YtabdcfcnngnnoaaProg.lean LOADS. Nothing in Lean hashes anything: it is a label: what it is worth is what the hold of that sum in a sandbox is worth. -/
noncomputable def Try.pinned : Pinned := { name := "ytabdcfcnngnnoaa", sum := "a5aae122c7e0da176e68f79e5e7728364ce44397a924adafa99bb975d690274f", checked := Try.checked }
namespace Rows
def none {H : Type} : Left H := { results := [], args := [] }

/-- 'portolanlaw05.FlowAsks': WHATEVER THE INPUT: true; the input reads as it did. -/
def flowAsksSpec : ChangeSpec := { name := "flowAsks", fn := fun _ => fun
  | [d1, d2] => { results := [.lit (.bool true)], args := [d1, d2] }
  | _ => none }
def flowAsksRow : OpenClaim := { program := "ytabdcfcnngnnoaa", sum := "a5aae122c7e0da176e68f79e5e7728364ce44397a924adafa99bb975d690274f", func := "portolan/portolanlaw05.FlowAsks", spec := "flowAsks", recurses := true, apart := false }
def FlowAsksSaid : Prop := flowAsksRow.holds Try.pinned (OpenSpec.ofChange flowAsksSpec)

/-- ITS FALSE NEIGHBOUR: 'it returns false'. Refute it at one input. -/
def flowAsksWrong : ChangeSpec := { name := "flowAsks", fn := fun _ => fun
  | [d1, d2] => { results := [.lit (.bool false)], args := [d1, d2] }
  | _ => none }
def FlowAsksWrongFalsely : Prop := flowAsksRow.holds Try.pinned (OpenSpec.ofChange flowAsksWrong)

/-- 'portolanlaw05.FlowBoth': WHATEVER THE INPUT: true; the input reads as it did. -/
def flowBothSpec : ChangeSpec := { name := "flowBoth", fn := fun _ => fun
  | [d1, d2] => { results := [.lit (.bool true)], args := [d1, d2] }
  | _ => none }
def flowBothRow : OpenClaim := { program := "ytabdcfcnngnnoaa", sum := "a5aae122c7e0da176e68f79e5e7728364ce44397a924adafa99bb975d690274f", func := "portolan/portolanlaw05.FlowBoth", spec := "flowBoth", recurses := true, apart := false }
def FlowBothSaid : Prop := flowBothRow.holds Try.pinned (OpenSpec.ofChange flowBothSpec)

/-- ITS FALSE NEIGHBOUR: 'it returns false'. Refute it at one input. -/
def flowBothWrong : ChangeSpec := { name := "flowBoth", fn := fun _ => fun
  | [d1, d2] => { results := [.lit (.bool false)], args := [d1, d2] }
  | _ => none }
def FlowBothWrongFalsely : Prop := flowBothRow.holds Try.pinned (OpenSpec.ofChange flowBothWrong)

/-- 'portolanlaw05.FlowWalks': WHATEVER THE INPUT: true; the input reads as it did. -/
def flowWalksSpec : ChangeSpec := { name := "flowWalks", fn := fun _ => fun
  | [d] => { results := [.lit (.bool true)], args := [d] }
  | _ => none }
def flowWalksRow : OpenClaim := { program := "ytabdcfcnngnnoaa", sum := "a5aae122c7e0da176e68f79e5e7728364ce44397a924adafa99bb975d690274f", func := "portolan/portolanlaw05.FlowWalks", spec := "flowWalks", unfollowed := true, recurses := true, apart := false }
def FlowWalksSaid : Prop := flowWalksRow.holds Try.pinned (OpenSpec.ofChange flowWalksSpec)

/-- ITS FALSE NEIGHBOUR: 'it returns false'. Refute it at one input. -/
def flowWalksWrong : ChangeSpec := { name := "flowWalks", fn := fun _ => fun
  | [d] => { results := [.lit (.bool false)], args := [d] }
  | _ => none }
def FlowWalksWrongFalsely : Prop := flowWalksRow.holds Try.pinned (OpenSpec.ofChange flowWalksWrong)

/-- 'portolanlaw05.FlowOrder': WHATEVER THE INPUT: true; the input reads as it did. -/
def flowOrderSpec : ChangeSpec := { name := "flowOrder", fn := fun _ => fun
  | [d] => { results := [.lit (.bool true)], args := [d] }
  | _ => none }
def flowOrderRow : OpenClaim := { program := "ytabdcfcnngnnoaa", sum := "a5aae122c7e0da176e68f79e5e7728364ce44397a924adafa99bb975d690274f", func := "portolan/portolanlaw05.FlowOrder", spec := "flowOrder", unfollowed := true, recurses := true, apart := false }
def FlowOrderSaid : Prop := flowOrderRow.holds Try.pinned (OpenSpec.ofChange flowOrderSpec)

/-- ITS FALSE NEIGHBOUR: 'it returns false'. Refute it at one input. -/
def flowOrderWrong : ChangeSpec := { name := "flowOrder", fn := fun _ => fun
  | [d] => { results := [.lit (.bool false)], args := [d] }
  | _ => none }
def FlowOrderWrongFalsely : Prop := flowOrderRow.holds Try.pinned (OpenSpec.ofChange flowOrderWrong)

/-- 'portolanlaw05.FlowReach': WHATEVER THE INPUT: true; the input reads as it did. -/
def flowReachSpec : ChangeSpec := { name := "flowReach", fn := fun _ => fun
  | [d] => { results := [.lit (.bool true)], args := [d] }
  | _ => none }
def flowReachRow : OpenClaim := { program := "ytabdcfcnngnnoaa", sum := "a5aae122c7e0da176e68f79e5e7728364ce44397a924adafa99bb975d690274f", func := "portolan/portolanlaw05.FlowReach", spec := "flowReach", unfollowed := true, recurses := true, apart := false }
def FlowReachSaid : Prop := flowReachRow.holds Try.pinned (OpenSpec.ofChange flowReachSpec)

/-- ITS FALSE NEIGHBOUR: 'it returns false'. Refute it at one input. -/
def flowReachWrong : ChangeSpec := { name := "flowReach", fn := fun _ => fun
  | [d] => { results := [.lit (.bool false)], args := [d] }
  | _ => none }
def FlowReachWrongFalsely : Prop := flowReachRow.holds Try.pinned (OpenSpec.ofChange flowReachWrong)

/-- 'portolanlaw06.DomTree': WHATEVER THE INPUT: true; the input reads as it did. -/
def domTreeSpec : ChangeSpec := { name := "domTree", fn := fun _ => fun
  | [d1, d2] => { results := [.lit (.bool true)], args := [d1, d2] }
  | _ => none }
def domTreeRow : OpenClaim := { program := "ytabdcfcnngnnoaa", sum := "a5aae122c7e0da176e68f79e5e7728364ce44397a924adafa99bb975d690274f", func := "portolan/portolanlaw06.DomTree", spec := "domTree", recurses := true, apart := false }
def DomTreeSaid : Prop := domTreeRow.holds Try.pinned (OpenSpec.ofChange domTreeSpec)

/-- ITS FALSE NEIGHBOUR: 'it returns false'. Refute it at one input. -/
def domTreeWrong : ChangeSpec := { name := "domTree", fn := fun _ => fun
  | [d1, d2] => { results := [.lit (.bool false)], args := [d1, d2] }
  | _ => none }
def DomTreeWrongFalsely : Prop := domTreeRow.holds Try.pinned (OpenSpec.ofChange domTreeWrong)

/-- 'portolanlaw06.DomAbove': WHATEVER THE INPUT: true; the input reads as it did. -/
def domAboveSpec : ChangeSpec := { name := "domAbove", fn := fun _ => fun
  | [d1, d2] => { results := [.lit (.bool true)], args := [d1, d2] }
  | _ => none }
def domAboveRow : OpenClaim := { program := "ytabdcfcnngnnoaa", sum := "a5aae122c7e0da176e68f79e5e7728364ce44397a924adafa99bb975d690274f", func := "portolan/portolanlaw06.DomAbove", spec := "domAbove", recurses := true, apart := false }
def DomAboveSaid : Prop := domAboveRow.holds Try.pinned (OpenSpec.ofChange domAboveSpec)

/-- ITS FALSE NEIGHBOUR: 'it returns false'. Refute it at one input. -/
def domAboveWrong : ChangeSpec := { name := "domAbove", fn := fun _ => fun
  | [d1, d2] => { results := [.lit (.bool false)], args := [d1, d2] }
  | _ => none }
def DomAboveWrongFalsely : Prop := domAboveRow.holds Try.pinned (OpenSpec.ofChange domAboveWrong)

/-- 'portolanlaw06.DomMeets': WHATEVER THE INPUT: true; the input reads as it did. -/
def domMeetsSpec : ChangeSpec := { name := "domMeets", fn := fun _ => fun
  | [d1, d2] => { results := [.lit (.bool true)], args := [d1, d2] }
  | _ => none }
def domMeetsRow : OpenClaim := { program := "ytabdcfcnngnnoaa", sum := "a5aae122c7e0da176e68f79e5e7728364ce44397a924adafa99bb975d690274f", func := "portolan/portolanlaw06.DomMeets", spec := "domMeets", recurses := true, apart := false }
def DomMeetsSaid : Prop := domMeetsRow.holds Try.pinned (OpenSpec.ofChange domMeetsSpec)

/-- ITS FALSE NEIGHBOUR: 'it returns false'. Refute it at one input. -/
def domMeetsWrong : ChangeSpec := { name := "domMeets", fn := fun _ => fun
  | [d1, d2] => { results := [.lit (.bool false)], args := [d1, d2] }
  | _ => none }
def DomMeetsWrongFalsely : Prop := domMeetsRow.holds Try.pinned (OpenSpec.ofChange domMeetsWrong)

/-- 'portolanlaw06.DomKids': WHATEVER THE INPUT: true; the input reads as it did. -/
def domKidsSpec : ChangeSpec := { name := "domKids", fn := fun _ => fun
  | [d] => { results := [.lit (.bool true)], args := [d] }
  | _ => none }
def domKidsRow : OpenClaim := { program := "ytabdcfcnngnnoaa", sum := "a5aae122c7e0da176e68f79e5e7728364ce44397a924adafa99bb975d690274f", func := "portolan/portolanlaw06.DomKids", spec := "domKids", recurses := true, apart := false }
def DomKidsSaid : Prop := domKidsRow.holds Try.pinned (OpenSpec.ofChange domKidsSpec)

/-- ITS FALSE NEIGHBOUR: 'it returns false'. Refute it at one input. -/
def domKidsWrong : ChangeSpec := { name := "domKids", fn := fun _ => fun
  | [d] => { results := [.lit (.bool false)], args := [d] }
  | _ => none }
def DomKidsWrongFalsely : Prop := domKidsRow.holds Try.pinned (OpenSpec.ofChange domKidsWrong)

/- THE SECOND FORM. 'bulk': how many values and letters a reading holds, each counted each time it is reached (what is shared counts as often as it is met; a slice's spare places count too). A statement '..UptoSaid' is the law's where the arguments, and the package variables that the reading takes, are together of bulk at most 1048576: NARROWER than '..Said'. Prove '..Said' where nothing that the law and all that it calls make is longer than what came in: it says more and counts as full. Else prove '..UptoSaid'. A law counts once. -/
mutual
def uptoBulk {H : Type} : DataW H → Nat
  | .lit (.string bytes) => bytes.length + 1
  | .lit _ => 1
  | .nil => 1
  | .ptr d => uptoBulk d + 1
  | .slice elems spare => uptoBulkAll elems + uptoBulkAll spare + 1
  | .agg parts => uptoBulkAll parts + 1
  | .iface _ d => uptoBulk d + 1
  | .map entries => uptoBulkEntries entries + 1
  | .held _ => 1
def uptoBulkAll {H : Type} : List (DataW H) → Nat
  | [] => 0
  | d :: r => uptoBulk d + uptoBulkAll r
def uptoBulkEntries {H : Type} : List (Lit × DataW H) → Nat
  | [] => 0
  | x :: r => uptoBulkEntry x + uptoBulkEntries r
def uptoBulkEntry {H : Type} : Lit × DataW H → Nat
  | (.string bytes, d) => bytes.length + uptoBulk d + 1
  | (_, d) => uptoBulk d + 1
 end
def uptoSmall : (H : Type) → List (DataW H) → Bool := fun _ ds => decide (uptoBulkAll ds ≤ 1048576)
def OpenSpec.upto (s : _root_.Go.ChangeSpec) : _root_.Go.OpenSpec := { _root_.Go.OpenSpec.ofChange s with cond := some uptoSmall }

/-- 'portolanlaw05.FlowAsks', WHERE WHAT IT READS IS OF BULK AT MOST 1048576: true; the input reads as it did. -/
def flowAsksUptoRow : OpenClaim := { program := "ytabdcfcnngnnoaa", sum := "a5aae122c7e0da176e68f79e5e7728364ce44397a924adafa99bb975d690274f", func := "portolan/portolanlaw05.FlowAsks", spec := "flowAsks", recurses := true, apart := false, narrowed := true }
def FlowAsksUptoSaid : Prop := flowAsksUptoRow.holds Try.pinned (OpenSpec.upto flowAsksSpec)

/-- 'portolanlaw05.FlowBoth', WHERE WHAT IT READS IS OF BULK AT MOST 1048576: true; the input reads as it did. -/
def flowBothUptoRow : OpenClaim := { program := "ytabdcfcnngnnoaa", sum := "a5aae122c7e0da176e68f79e5e7728364ce44397a924adafa99bb975d690274f", func := "portolan/portolanlaw05.FlowBoth", spec := "flowBoth", recurses := true, apart := false, narrowed := true }
def FlowBothUptoSaid : Prop := flowBothUptoRow.holds Try.pinned (OpenSpec.upto flowBothSpec)

/-- 'portolanlaw05.FlowWalks', WHERE WHAT IT READS IS OF BULK AT MOST 1048576: true; the input reads as it did. -/
def flowWalksUptoRow : OpenClaim := { program := "ytabdcfcnngnnoaa", sum := "a5aae122c7e0da176e68f79e5e7728364ce44397a924adafa99bb975d690274f", func := "portolan/portolanlaw05.FlowWalks", spec := "flowWalks", unfollowed := true, recurses := true, apart := false, narrowed := true }
def FlowWalksUptoSaid : Prop := flowWalksUptoRow.holds Try.pinned (OpenSpec.upto flowWalksSpec)

/-- 'portolanlaw05.FlowOrder', WHERE WHAT IT READS IS OF BULK AT MOST 1048576: true; the input reads as it did. -/
def flowOrderUptoRow : OpenClaim := { program := "ytabdcfcnngnnoaa", sum := "a5aae122c7e0da176e68f79e5e7728364ce44397a924adafa99bb975d690274f", func := "portolan/portolanlaw05.FlowOrder", spec := "flowOrder", unfollowed := true, recurses := true, apart := false, narrowed := true }
def FlowOrderUptoSaid : Prop := flowOrderUptoRow.holds Try.pinned (OpenSpec.upto flowOrderSpec)

/-- 'portolanlaw05.FlowReach', WHERE WHAT IT READS IS OF BULK AT MOST 1048576: true; the input reads as it did. -/
def flowReachUptoRow : OpenClaim := { program := "ytabdcfcnngnnoaa", sum := "a5aae122c7e0da176e68f79e5e7728364ce44397a924adafa99bb975d690274f", func := "portolan/portolanlaw05.FlowReach", spec := "flowReach", unfollowed := true, recurses := true, apart := false, narrowed := true }
def FlowReachUptoSaid : Prop := flowReachUptoRow.holds Try.pinned (OpenSpec.upto flowReachSpec)

/-- 'portolanlaw06.DomTree', WHERE WHAT IT READS IS OF BULK AT MOST 1048576: true; the input reads as it did. -/
def domTreeUptoRow : OpenClaim := { program := "ytabdcfcnngnnoaa", sum := "a5aae122c7e0da176e68f79e5e7728364ce44397a924adafa99bb975d690274f", func := "portolan/portolanlaw06.DomTree", spec := "domTree", recurses := true, apart := false, narrowed := true }
def DomTreeUptoSaid : Prop := domTreeUptoRow.holds Try.pinned (OpenSpec.upto domTreeSpec)

/-- 'portolanlaw06.DomAbove', WHERE WHAT IT READS IS OF BULK AT MOST 1048576: true; the input reads as it did. -/
def domAboveUptoRow : OpenClaim := { program := "ytabdcfcnngnnoaa", sum := "a5aae122c7e0da176e68f79e5e7728364ce44397a924adafa99bb975d690274f", func := "portolan/portolanlaw06.DomAbove", spec := "domAbove", recurses := true, apart := false, narrowed := true }
def DomAboveUptoSaid : Prop := domAboveUptoRow.holds Try.pinned (OpenSpec.upto domAboveSpec)

/-- 'portolanlaw06.DomMeets', WHERE WHAT IT READS IS OF BULK AT MOST 1048576: true; the input reads as it did. -/
def domMeetsUptoRow : OpenClaim := { program := "ytabdcfcnngnnoaa", sum := "a5aae122c7e0da176e68f79e5e7728364ce44397a924adafa99bb975d690274f", func := "portolan/portolanlaw06.DomMeets", spec := "domMeets", recurses := true, apart := false, narrowed := true }
def DomMeetsUptoSaid : Prop := domMeetsUptoRow.holds Try.pinned (OpenSpec.upto domMeetsSpec)

/-- 'portolanlaw06.DomKids', WHERE WHAT IT READS IS OF BULK AT MOST 1048576: true; the input reads as it did. -/
def domKidsUptoRow : OpenClaim := { program := "ytabdcfcnngnnoaa", sum := "a5aae122c7e0da176e68f79e5e7728364ce44397a924adafa99bb975d690274f", func := "portolan/portolanlaw06.DomKids", spec := "domKids", recurses := true, apart := false, narrowed := true }
def DomKidsUptoSaid : Prop := domKidsUptoRow.holds Try.pinned (OpenSpec.upto domKidsSpec)

end Rows
end Go.Proofs.Ytabdcfcnngnnoaa
