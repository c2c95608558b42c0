/-
  No cell of these rows narrows 'for every input' (looked for: loops, veiled, ifaces, maps, wideKeys, modest, calm, conditions, laid).
  DERIVED. THE GIVEN ROWS OF THIS SEAT. 5 by the template 'for every input the law returns true; each argument reads behind the call as it read before'; 0 by the template 'total and deterministic' (their statements: YtnmnaomfohlmcaaTotals.lean).
  GIVEN WITH THE SEED: the statements are not yours to turn. If you find one false, say at which input.
  Laid BY PROGRAM, IN A SANDBOX (cutbox-rows.mjs): the forced cells as the released guide's own fill.sh prints them over the translation bb040c0a6c887e8e… (all of the seat's roots in one cut). By AI agents, Wed Nov 11 2026. No macro, syntax, notation, axiom, sorry.
-/
import Derived.Test.YtnmnaomfohlmcaaChecked
import GoSem.Claim
import GoSem.ClaimJoined
import GoSem.ClaimMapViews
import Derived.JoinedTies
import Derived.KernelRfl
namespace Go.Proofs.Ytnmnaomfohlmcaa
/- THE CELL 'sum', in the pinned program and in every row, IS THE sha256 OF THE DUMP (.gsa) THAT YtnmnaomfohlmcaaProg.lean LOADS. Nothing in Lean hashes anything: it is a label: what it is worth is what the hold of that sum in a sandbox is worth. -/
noncomputable def Try.pinned : Pinned := { name := "ytnmnaomfohlmcaa", sum := "bb040c0a6c887e8e768098f4863631695303679d8aa7b95a8d8ea8bc00a5df7f", checked := Try.checked }
namespace Rows
def none {H : Type} : Left H := { results := [], args := [] }

/-- 'portolanlaw09.HeapAllocs': WHATEVER THE INPUT: true; the input reads as it did. -/
def heapAllocsSpec : ChangeSpec := { name := "heapAllocs", fn := fun _ => fun
  | [d1, d2, d3] => { results := [.lit (.bool true)], args := [d1, d2, d3] }
  | _ => none }
def heapAllocsRow : OpenClaim := { program := "ytnmnaomfohlmcaa", sum := "bb040c0a6c887e8e768098f4863631695303679d8aa7b95a8d8ea8bc00a5df7f", func := "portolan/portolanlaw09.HeapAllocs", spec := "heapAllocs", unfollowed := true, recurses := true, apart := false }
def HeapAllocsSaid : Prop := heapAllocsRow.holds Try.pinned (OpenSpec.ofChange heapAllocsSpec)

/-- ITS FALSE NEIGHBOUR: 'it returns false'. Refute it at one input. -/
def heapAllocsWrong : ChangeSpec := { name := "heapAllocs", fn := fun _ => fun
  | [d1, d2, d3] => { results := [.lit (.bool false)], args := [d1, d2, d3] }
  | _ => none }
def HeapAllocsWrongFalsely : Prop := heapAllocsRow.holds Try.pinned (OpenSpec.ofChange heapAllocsWrong)

/-- 'portolanlaw09.HeapNew': WHATEVER THE INPUT: true; the input reads as it did. -/
def heapNewSpec : ChangeSpec := { name := "heapNew", fn := fun _ => fun
  | [d1, d2, d3] => { results := [.lit (.bool true)], args := [d1, d2, d3] }
  | _ => none }
def heapNewRow : OpenClaim := { program := "ytnmnaomfohlmcaa", sum := "bb040c0a6c887e8e768098f4863631695303679d8aa7b95a8d8ea8bc00a5df7f", func := "portolan/portolanlaw09.HeapNew", spec := "heapNew", unfollowed := true, recurses := true, apart := false }
def HeapNewSaid : Prop := heapNewRow.holds Try.pinned (OpenSpec.ofChange heapNewSpec)

/-- ITS FALSE NEIGHBOUR: 'it returns false'. Refute it at one input. -/
def heapNewWrong : ChangeSpec := { name := "heapNew", fn := fun _ => fun
  | [d1, d2, d3] => { results := [.lit (.bool false)], args := [d1, d2, d3] }
  | _ => none }
def HeapNewWrongFalsely : Prop := heapNewRow.holds Try.pinned (OpenSpec.ofChange heapNewWrong)

/-- 'portolanlaw09.HeapKeeps': WHATEVER THE INPUT: true; the input reads as it did. -/
def heapKeepsSpec : ChangeSpec := { name := "heapKeeps", fn := fun _ => fun
  | [d1, d2, d3] => { results := [.lit (.bool true)], args := [d1, d2, d3] }
  | _ => none }
def heapKeepsRow : OpenClaim := { program := "ytnmnaomfohlmcaa", sum := "bb040c0a6c887e8e768098f4863631695303679d8aa7b95a8d8ea8bc00a5df7f", func := "portolan/portolanlaw09.HeapKeeps", spec := "heapKeeps", unfollowed := true, recurses := true, apart := false }
def HeapKeepsSaid : Prop := heapKeepsRow.holds Try.pinned (OpenSpec.ofChange heapKeepsSpec)

/-- ITS FALSE NEIGHBOUR: 'it returns false'. Refute it at one input. -/
def heapKeepsWrong : ChangeSpec := { name := "heapKeeps", fn := fun _ => fun
  | [d1, d2, d3] => { results := [.lit (.bool false)], args := [d1, d2, d3] }
  | _ => none }
def HeapKeepsWrongFalsely : Prop := heapKeepsRow.holds Try.pinned (OpenSpec.ofChange heapKeepsWrong)

/-- 'portolanlaw09.HeapLinks': WHATEVER THE INPUT: true; the input reads as it did. -/
def heapLinksSpec : ChangeSpec := { name := "heapLinks", fn := fun _ => fun
  | [d1, d2] => { results := [.lit (.bool true)], args := [d1, d2] }
  | _ => none }
def heapLinksRow : OpenClaim := { program := "ytnmnaomfohlmcaa", sum := "bb040c0a6c887e8e768098f4863631695303679d8aa7b95a8d8ea8bc00a5df7f", func := "portolan/portolanlaw09.HeapLinks", spec := "heapLinks", unfollowed := true, recurses := true, apart := false }
def HeapLinksSaid : Prop := heapLinksRow.holds Try.pinned (OpenSpec.ofChange heapLinksSpec)

/-- ITS FALSE NEIGHBOUR: 'it returns false'. Refute it at one input. -/
def heapLinksWrong : ChangeSpec := { name := "heapLinks", fn := fun _ => fun
  | [d1, d2] => { results := [.lit (.bool false)], args := [d1, d2] }
  | _ => none }
def HeapLinksWrongFalsely : Prop := heapLinksRow.holds Try.pinned (OpenSpec.ofChange heapLinksWrong)

/-- 'portolanlaw09.HeapStores': WHATEVER THE INPUT: true; the input reads as it did. -/
def heapStoresSpec : ChangeSpec := { name := "heapStores", fn := fun _ => fun
  | [d1, d2, d3] => { results := [.lit (.bool true)], args := [d1, d2, d3] }
  | _ => none }
def heapStoresRow : OpenClaim := { program := "ytnmnaomfohlmcaa", sum := "bb040c0a6c887e8e768098f4863631695303679d8aa7b95a8d8ea8bc00a5df7f", func := "portolan/portolanlaw09.HeapStores", spec := "heapStores", unfollowed := true, recurses := true, apart := false }
def HeapStoresSaid : Prop := heapStoresRow.holds Try.pinned (OpenSpec.ofChange heapStoresSpec)

/-- ITS FALSE NEIGHBOUR: 'it returns false'. Refute it at one input. -/
def heapStoresWrong : ChangeSpec := { name := "heapStores", fn := fun _ => fun
  | [d1, d2, d3] => { results := [.lit (.bool false)], args := [d1, d2, d3] }
  | _ => none }
def HeapStoresWrongFalsely : Prop := heapStoresRow.holds Try.pinned (OpenSpec.ofChange heapStoresWrong)

/- THE SECOND FORM. 'bulk': how many values and letters a reading holds, each counted each time it is reached (what is shared counts as often as it is met; a slice's spare places count too). A statement '..UptoSaid' is the law's where the arguments, and the package variables that the reading takes, are together of bulk at most 1048576: NARROWER than '..Said'. Prove '..Said' where nothing that the law and all that it calls make is longer than what came in: it says more and counts as full. Else prove '..UptoSaid'. A law counts once. -/
mutual
def uptoBulk {H : Type} : DataW H → Nat
  | .lit (.string bytes) => bytes.length + 1
  | .lit _ => 1
  | .nil => 1
  | .ptr d => uptoBulk d + 1
  | .slice elems spare => uptoBulkAll elems + uptoBulkAll spare + 1
  | .agg parts => uptoBulkAll parts + 1
  | .iface _ d => uptoBulk d + 1
  | .map entries => uptoBulkEntries entries + 1
  | .held _ => 1
def uptoBulkAll {H : Type} : List (DataW H) → Nat
  | [] => 0
  | d :: r => uptoBulk d + uptoBulkAll r
def uptoBulkEntries {H : Type} : List (Lit × DataW H) → Nat
  | [] => 0
  | x :: r => uptoBulkEntry x + uptoBulkEntries r
def uptoBulkEntry {H : Type} : Lit × DataW H → Nat
  | (.string bytes, d) => bytes.length + uptoBulk d + 1
  | (_, d) => uptoBulk d + 1
 end
def uptoSmall : (H : Type) → List (DataW H) → Bool := fun _ ds => decide (uptoBulkAll ds ≤ 1048576)
def OpenSpec.upto (s : _root_.Go.ChangeSpec) : _root_.Go.OpenSpec := { _root_.Go.OpenSpec.ofChange s with cond := some uptoSmall }

/-- 'portolanlaw09.HeapAllocs', WHERE WHAT IT READS IS OF BULK AT MOST 1048576: true; the input reads as it did. -/
def heapAllocsUptoRow : OpenClaim := { program := "ytnmnaomfohlmcaa", sum := "bb040c0a6c887e8e768098f4863631695303679d8aa7b95a8d8ea8bc00a5df7f", func := "portolan/portolanlaw09.HeapAllocs", spec := "heapAllocs", unfollowed := true, recurses := true, apart := false, narrowed := true }
def HeapAllocsUptoSaid : Prop := heapAllocsUptoRow.holds Try.pinned (OpenSpec.upto heapAllocsSpec)

/-- 'portolanlaw09.HeapNew', WHERE WHAT IT READS IS OF BULK AT MOST 1048576: true; the input reads as it did. -/
def heapNewUptoRow : OpenClaim := { program := "ytnmnaomfohlmcaa", sum := "bb040c0a6c887e8e768098f4863631695303679d8aa7b95a8d8ea8bc00a5df7f", func := "portolan/portolanlaw09.HeapNew", spec := "heapNew", unfollowed := true, recurses := true, apart := false, narrowed := true }
def HeapNewUptoSaid : Prop := heapNewUptoRow.holds Try.pinned (OpenSpec.upto heapNewSpec)

/-- 'portolanlaw09.HeapKeeps', WHERE WHAT IT READS IS OF BULK AT MOST 1048576: true; the input reads as it did. -/
def heapKeepsUptoRow : OpenClaim := { program := "ytnmnaomfohlmcaa", sum := "bb040c0a6c887e8e768098f4863631695303679d8aa7b95a8d8ea8bc00a5df7f", func := "portolan/portolanlaw09.HeapKeeps", spec := "heapKeeps", unfollowed := true, recurses := true, apart := false, narrowed := true }
def HeapKeepsUptoSaid : Prop := heapKeepsUptoRow.holds Try.pinned (OpenSpec.upto heapKeepsSpec)

/-- 'portolanlaw09.HeapLinks', WHERE WHAT IT READS IS OF BULK AT MOST 1048576: true; the input reads as it did. -/
def heapLinksUptoRow : OpenClaim := { program := "ytnmnaomfohlmcaa", sum := "bb040c0a6c887e8e768098f4863631695303679d8aa7b95a8d8ea8bc00a5df7f", func := "portolan/portolanlaw09.HeapLinks", spec := "heapLinks", unfollowed := true, recurses := true, apart := false, narrowed := true }
def HeapLinksUptoSaid : Prop := heapLinksUptoRow.holds Try.pinned (OpenSpec.upto heapLinksSpec)

/-- 'portolanlaw09.HeapStores', WHERE WHAT IT READS IS OF BULK AT MOST 1048576: true; the input reads as it did. -/
def heapStoresUptoRow : OpenClaim := { program := "ytnmnaomfohlmcaa", sum := "bb040c0a6c887e8e768098f4863631695303679d8aa7b95a8d8ea8bc00a5df7f", func := "portolan/portolanlaw09.HeapStores", spec := "heapStores", unfollowed := true, recurses := true, apart := false, narrowed := true }
def HeapStoresUptoSaid : Prop := heapStoresUptoRow.holds Try.pinned (OpenSpec.upto heapStoresSpec)

end Rows
end Go.Proofs.Ytnmnaomfohlmcaa
