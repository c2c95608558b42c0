/-
  No cell of these rows narrows 'for every input' (looked for: loops, veiled, ifaces, maps, wideKeys, modest, calm, conditions, laid).
  DERIVED. THE GIVEN ROWS OF THIS SEAT. 5 by the template 'for every input the law returns true; each argument reads behind the call as it read before'; 0 by the template 'total and deterministic' (their statements: YthbkemkjkpaoaabTotals.lean).
  GIVEN WITH THE SEED: the statements are not yours to turn. If you find one false, say at which input.
  Laid BY PROGRAM, IN A SANDBOX (cutbox-rows.mjs): the forced cells as the released guide's own fill.sh prints them over the translation 89188b71b8b0773a… (all of the seat's roots in one cut). By AI agents, Wed Nov 11 2026. No macro, syntax, notation, axiom, sorry.
-/
import Derived.Test.YthbkemkjkpaoaabChecked
import GoSem.Claim
import GoSem.ClaimJoined
import GoSem.ClaimMapViews
import Derived.JoinedTies
import Derived.KernelRfl
namespace Go.Proofs.Ythbkemkjkpaoaab
/- THE CELL 'sum', in the pinned program and in every row, IS THE sha256 OF THE DUMP (.gsa) THAT YthbkemkjkpaoaabProg.lean LOADS. Nothing in Lean hashes anything: it is a label: what it is worth is what the hold of that sum in a sandbox is worth. -/
noncomputable def Try.pinned : Pinned := { name := "ythbkemkjkpaoaab", sum := "89188b71b8b0773a90dbbade19499856445a957f22e54a1320cb16797f976084", checked := Try.checked }
namespace Rows
def none {H : Type} : Left H := { results := [], args := [] }

/-- 'portolanlaw17.ParOrders': WHATEVER THE INPUT: true; the input reads as it did. -/
def parOrdersSpec : ChangeSpec := { name := "parOrders", fn := fun _ => fun
  | [d1, d2] => { results := [.lit (.bool true)], args := [d1, d2] }
  | _ => none }
def parOrdersRow : OpenClaim := { program := "ythbkemkjkpaoaab", sum := "89188b71b8b0773a90dbbade19499856445a957f22e54a1320cb16797f976084", func := "portolan/portolanlaw17.ParOrders", spec := "parOrders", unfollowed := true, recurses := true, plainKeys := false, apart := false }
def ParOrdersSaid : Prop := parOrdersRow.holds Try.pinned (OpenSpec.ofChange parOrdersSpec)

/-- ITS FALSE NEIGHBOUR: 'it returns false'. Refute it at one input. -/
def parOrdersWrong : ChangeSpec := { name := "parOrders", fn := fun _ => fun
  | [d1, d2] => { results := [.lit (.bool false)], args := [d1, d2] }
  | _ => none }
def ParOrdersWrongFalsely : Prop := parOrdersRow.holds Try.pinned (OpenSpec.ofChange parOrdersWrong)

/-- 'portolanlaw17.ParPlays': WHATEVER THE INPUT: true; the input reads as it did. -/
def parPlaysSpec : ChangeSpec := { name := "parPlays", fn := fun _ => fun
  | [d1, d2, d3] => { results := [.lit (.bool true)], args := [d1, d2, d3] }
  | _ => none }
def parPlaysRow : OpenClaim := { program := "ythbkemkjkpaoaab", sum := "89188b71b8b0773a90dbbade19499856445a957f22e54a1320cb16797f976084", func := "portolan/portolanlaw17.ParPlays", spec := "parPlays", unfollowed := true, recurses := true, plainKeys := false, apart := false }
def ParPlaysSaid : Prop := parPlaysRow.holds Try.pinned (OpenSpec.ofChange parPlaysSpec)

/-- ITS FALSE NEIGHBOUR: 'it returns false'. Refute it at one input. -/
def parPlaysWrong : ChangeSpec := { name := "parPlays", fn := fun _ => fun
  | [d1, d2, d3] => { results := [.lit (.bool false)], args := [d1, d2, d3] }
  | _ => none }
def ParPlaysWrongFalsely : Prop := parPlaysRow.holds Try.pinned (OpenSpec.ofChange parPlaysWrong)

/-- 'portolanlaw17.ParOnce': WHATEVER THE INPUT: true; the input reads as it did. -/
def parOnceSpec : ChangeSpec := { name := "parOnce", fn := fun _ => fun
  | [d1, d2, d3] => { results := [.lit (.bool true)], args := [d1, d2, d3] }
  | _ => none }
def parOnceRow : OpenClaim := { program := "ythbkemkjkpaoaab", sum := "89188b71b8b0773a90dbbade19499856445a957f22e54a1320cb16797f976084", func := "portolan/portolanlaw17.ParOnce", spec := "parOnce", unfollowed := true, recurses := true, plainKeys := false, apart := false }
def ParOnceSaid : Prop := parOnceRow.holds Try.pinned (OpenSpec.ofChange parOnceSpec)

/-- ITS FALSE NEIGHBOUR: 'it returns false'. Refute it at one input. -/
def parOnceWrong : ChangeSpec := { name := "parOnce", fn := fun _ => fun
  | [d1, d2, d3] => { results := [.lit (.bool false)], args := [d1, d2, d3] }
  | _ => none }
def ParOnceWrongFalsely : Prop := parOnceRow.holds Try.pinned (OpenSpec.ofChange parOnceWrong)

/-- 'portolanlaw17.ParNone': WHATEVER THE INPUT: true; the input reads as it did. -/
def parNoneSpec : ChangeSpec := { name := "parNone", fn := fun _ => fun
  | [d1, d2] => { results := [.lit (.bool true)], args := [d1, d2] }
  | _ => none }
def parNoneRow : OpenClaim := { program := "ythbkemkjkpaoaab", sum := "89188b71b8b0773a90dbbade19499856445a957f22e54a1320cb16797f976084", func := "portolan/portolanlaw17.ParNone", spec := "parNone", unfollowed := true, recurses := true, plainKeys := false, apart := false }
def ParNoneSaid : Prop := parNoneRow.holds Try.pinned (OpenSpec.ofChange parNoneSpec)

/-- ITS FALSE NEIGHBOUR: 'it returns false'. Refute it at one input. -/
def parNoneWrong : ChangeSpec := { name := "parNone", fn := fun _ => fun
  | [d1, d2] => { results := [.lit (.bool false)], args := [d1, d2] }
  | _ => none }
def ParNoneWrongFalsely : Prop := parNoneRow.holds Try.pinned (OpenSpec.ofChange parNoneWrong)

/-- 'portolanlaw17.ParShort': WHATEVER THE INPUT: true; the input reads as it did. -/
def parShortSpec : ChangeSpec := { name := "parShort", fn := fun _ => fun
  | [d1, d2] => { results := [.lit (.bool true)], args := [d1, d2] }
  | _ => none }
def parShortRow : OpenClaim := { program := "ythbkemkjkpaoaab", sum := "89188b71b8b0773a90dbbade19499856445a957f22e54a1320cb16797f976084", func := "portolan/portolanlaw17.ParShort", spec := "parShort", unfollowed := true, recurses := true, plainKeys := false, apart := false }
def ParShortSaid : Prop := parShortRow.holds Try.pinned (OpenSpec.ofChange parShortSpec)

/-- ITS FALSE NEIGHBOUR: 'it returns false'. Refute it at one input. -/
def parShortWrong : ChangeSpec := { name := "parShort", fn := fun _ => fun
  | [d1, d2] => { results := [.lit (.bool false)], args := [d1, d2] }
  | _ => none }
def ParShortWrongFalsely : Prop := parShortRow.holds Try.pinned (OpenSpec.ofChange parShortWrong)

/- THE SECOND FORM. 'bulk': how many values and letters a reading holds, each counted each time it is reached (what is shared counts as often as it is met; a slice's spare places count too). A statement '..UptoSaid' is the law's where the arguments, and the package variables that the reading takes, are together of bulk at most 1048576: NARROWER than '..Said'. Prove '..Said' where nothing that the law and all that it calls make is longer than what came in: it says more and counts as full. Else prove '..UptoSaid'. A law counts once. -/
mutual
def uptoBulk {H : Type} : DataW H → Nat
  | .lit (.string bytes) => bytes.length + 1
  | .lit _ => 1
  | .nil => 1
  | .ptr d => uptoBulk d + 1
  | .slice elems spare => uptoBulkAll elems + uptoBulkAll spare + 1
  | .agg parts => uptoBulkAll parts + 1
  | .iface _ d => uptoBulk d + 1
  | .map entries => uptoBulkEntries entries + 1
  | .held _ => 1
def uptoBulkAll {H : Type} : List (DataW H) → Nat
  | [] => 0
  | d :: r => uptoBulk d + uptoBulkAll r
def uptoBulkEntries {H : Type} : List (Lit × DataW H) → Nat
  | [] => 0
  | x :: r => uptoBulkEntry x + uptoBulkEntries r
def uptoBulkEntry {H : Type} : Lit × DataW H → Nat
  | (.string bytes, d) => bytes.length + uptoBulk d + 1
  | (_, d) => uptoBulk d + 1
 end
def uptoSmall : (H : Type) → List (DataW H) → Bool := fun _ ds => decide (uptoBulkAll ds ≤ 1048576)
def OpenSpec.upto (s : _root_.Go.ChangeSpec) : _root_.Go.OpenSpec := { _root_.Go.OpenSpec.ofChange s with cond := some uptoSmall }

/-- 'portolanlaw17.ParOrders', WHERE WHAT IT READS IS OF BULK AT MOST 1048576: true; the input reads as it did. -/
def parOrdersUptoRow : OpenClaim := { program := "ythbkemkjkpaoaab", sum := "89188b71b8b0773a90dbbade19499856445a957f22e54a1320cb16797f976084", func := "portolan/portolanlaw17.ParOrders", spec := "parOrders", unfollowed := true, recurses := true, plainKeys := false, apart := false, narrowed := true }
def ParOrdersUptoSaid : Prop := parOrdersUptoRow.holds Try.pinned (OpenSpec.upto parOrdersSpec)

/-- 'portolanlaw17.ParPlays', WHERE WHAT IT READS IS OF BULK AT MOST 1048576: true; the input reads as it did. -/
def parPlaysUptoRow : OpenClaim := { program := "ythbkemkjkpaoaab", sum := "89188b71b8b0773a90dbbade19499856445a957f22e54a1320cb16797f976084", func := "portolan/portolanlaw17.ParPlays", spec := "parPlays", unfollowed := true, recurses := true, plainKeys := false, apart := false, narrowed := true }
def ParPlaysUptoSaid : Prop := parPlaysUptoRow.holds Try.pinned (OpenSpec.upto parPlaysSpec)

/-- 'portolanlaw17.ParOnce', WHERE WHAT IT READS IS OF BULK AT MOST 1048576: true; the input reads as it did. -/
def parOnceUptoRow : OpenClaim := { program := "ythbkemkjkpaoaab", sum := "89188b71b8b0773a90dbbade19499856445a957f22e54a1320cb16797f976084", func := "portolan/portolanlaw17.ParOnce", spec := "parOnce", unfollowed := true, recurses := true, plainKeys := false, apart := false, narrowed := true }
def ParOnceUptoSaid : Prop := parOnceUptoRow.holds Try.pinned (OpenSpec.upto parOnceSpec)

/-- 'portolanlaw17.ParNone', WHERE WHAT IT READS IS OF BULK AT MOST 1048576: true; the input reads as it did. -/
def parNoneUptoRow : OpenClaim := { program := "ythbkemkjkpaoaab", sum := "89188b71b8b0773a90dbbade19499856445a957f22e54a1320cb16797f976084", func := "portolan/portolanlaw17.ParNone", spec := "parNone", unfollowed := true, recurses := true, plainKeys := false, apart := false, narrowed := true }
def ParNoneUptoSaid : Prop := parNoneUptoRow.holds Try.pinned (OpenSpec.upto parNoneSpec)

/-- 'portolanlaw17.ParShort', WHERE WHAT IT READS IS OF BULK AT MOST 1048576: true; the input reads as it did. -/
def parShortUptoRow : OpenClaim := { program := "ythbkemkjkpaoaab", sum := "89188b71b8b0773a90dbbade19499856445a957f22e54a1320cb16797f976084", func := "portolan/portolanlaw17.ParShort", spec := "parShort", unfollowed := true, recurses := true, plainKeys := false, apart := false, narrowed := true }
def ParShortUptoSaid : Prop := parShortUptoRow.holds Try.pinned (OpenSpec.upto parShortSpec)

end Rows
end Go.Proofs.Ythbkemkjkpaoaab
