/-
  No cell of these rows narrows 'for every input' (looked for: loops, veiled, ifaces, maps, wideKeys, modest, calm, conditions, laid).
  DERIVED. THE GIVEN ROWS OF THIS SEAT. 5 by the template 'for every input the law returns true; each argument reads behind the call as it read before'; 0 by the template 'total and deterministic' (their statements: YthbkemkjkpaoaacTotals.lean).
  GIVEN WITH THE SEED: the statements are not yours to turn. If you find one false, say at which input.
  Laid BY PROGRAM, IN A SANDBOX (cutbox-rows.mjs): the forced cells as the released guide's own fill.sh prints them over the translation dfb119c46dba89a4… (all of the seat's roots in one cut). By AI agents, Wed Nov 11 2026. No macro, syntax, notation, axiom, sorry.
-/
import Derived.Test.YthbkemkjkpaoaacChecked
import GoSem.Claim
import GoSem.ClaimJoined
import GoSem.ClaimMapViews
import Derived.JoinedTies
import Derived.KernelRfl
namespace Go.Proofs.Ythbkemkjkpaoaac
/- THE CELL 'sum', in the pinned program and in every row, IS THE sha256 OF THE DUMP (.gsa) THAT YthbkemkjkpaoaacProg.lean LOADS. Nothing in Lean hashes anything: it is a label: what it is worth is what the hold of that sum in a sandbox is worth. -/
noncomputable def Try.pinned : Pinned := { name := "ythbkemkjkpaoaac", sum := "dfb119c46dba89a443a2d5c1d134042fcf83a3577642e8ac81076b0fb5c1d5be", checked := Try.checked }
namespace Rows
def none {H : Type} : Left H := { results := [], args := [] }

/-- 'portolanlaw16.ScanScans': WHATEVER THE INPUT: true; the input reads as it did. -/
def scanScansSpec : ChangeSpec := { name := "scanScans", fn := fun _ => fun
  | [d1, d2] => { results := [.lit (.bool true)], args := [d1, d2] }
  | _ => none }
def scanScansRow : OpenClaim := { program := "ythbkemkjkpaoaac", sum := "dfb119c46dba89a443a2d5c1d134042fcf83a3577642e8ac81076b0fb5c1d5be", func := "portolan/portolanlaw16.ScanScans", spec := "scanScans", unfollowed := true, recurses := true, apart := false }
def ScanScansSaid : Prop := scanScansRow.holds Try.pinned (OpenSpec.ofChange scanScansSpec)

/-- ITS FALSE NEIGHBOUR: 'it returns false'. Refute it at one input. -/
def scanScansWrong : ChangeSpec := { name := "scanScans", fn := fun _ => fun
  | [d1, d2] => { results := [.lit (.bool false)], args := [d1, d2] }
  | _ => none }
def ScanScansWrongFalsely : Prop := scanScansRow.holds Try.pinned (OpenSpec.ofChange scanScansWrong)

/-- 'portolanlaw16.ScanMore': WHATEVER THE INPUT: true; the input reads as it did. -/
def scanMoreSpec : ChangeSpec := { name := "scanMore", fn := fun _ => fun
  | [d] => { results := [.lit (.bool true)], args := [d] }
  | _ => none }
def scanMoreRow : OpenClaim := { program := "ythbkemkjkpaoaac", sum := "dfb119c46dba89a443a2d5c1d134042fcf83a3577642e8ac81076b0fb5c1d5be", func := "portolan/portolanlaw16.ScanMore", spec := "scanMore", unfollowed := true, recurses := true, apart := false }
def ScanMoreSaid : Prop := scanMoreRow.holds Try.pinned (OpenSpec.ofChange scanMoreSpec)

/-- ITS FALSE NEIGHBOUR: 'it returns false'. Refute it at one input. -/
def scanMoreWrong : ChangeSpec := { name := "scanMore", fn := fun _ => fun
  | [d] => { results := [.lit (.bool false)], args := [d] }
  | _ => none }
def ScanMoreWrongFalsely : Prop := scanMoreRow.holds Try.pinned (OpenSpec.ofChange scanMoreWrong)

/-- 'portolanlaw16.ScanAgain': WHATEVER THE INPUT: true; the input reads as it did. -/
def scanAgainSpec : ChangeSpec := { name := "scanAgain", fn := fun _ => fun
  | [d1, d2, d3] => { results := [.lit (.bool true)], args := [d1, d2, d3] }
  | _ => none }
def scanAgainRow : OpenClaim := { program := "ythbkemkjkpaoaac", sum := "dfb119c46dba89a443a2d5c1d134042fcf83a3577642e8ac81076b0fb5c1d5be", func := "portolan/portolanlaw16.ScanAgain", spec := "scanAgain", unfollowed := true, recurses := true, apart := false }
def ScanAgainSaid : Prop := scanAgainRow.holds Try.pinned (OpenSpec.ofChange scanAgainSpec)

/-- ITS FALSE NEIGHBOUR: 'it returns false'. Refute it at one input. -/
def scanAgainWrong : ChangeSpec := { name := "scanAgain", fn := fun _ => fun
  | [d1, d2, d3] => { results := [.lit (.bool false)], args := [d1, d2, d3] }
  | _ => none }
def ScanAgainWrongFalsely : Prop := scanAgainRow.holds Try.pinned (OpenSpec.ofChange scanAgainWrong)

/-- 'portolanlaw16.ScanAsks': WHATEVER THE INPUT: true; the input reads as it did. -/
def scanAsksSpec : ChangeSpec := { name := "scanAsks", fn := fun _ => fun
  | [d1, d2] => { results := [.lit (.bool true)], args := [d1, d2] }
  | _ => none }
def scanAsksRow : OpenClaim := { program := "ythbkemkjkpaoaac", sum := "dfb119c46dba89a443a2d5c1d134042fcf83a3577642e8ac81076b0fb5c1d5be", func := "portolan/portolanlaw16.ScanAsks", spec := "scanAsks", unfollowed := true, recurses := true, apart := false }
def ScanAsksSaid : Prop := scanAsksRow.holds Try.pinned (OpenSpec.ofChange scanAsksSpec)

/-- ITS FALSE NEIGHBOUR: 'it returns false'. Refute it at one input. -/
def scanAsksWrong : ChangeSpec := { name := "scanAsks", fn := fun _ => fun
  | [d1, d2] => { results := [.lit (.bool false)], args := [d1, d2] }
  | _ => none }
def ScanAsksWrongFalsely : Prop := scanAsksRow.holds Try.pinned (OpenSpec.ofChange scanAsksWrong)

/-- 'portolanlaw16.ScanNone': WHATEVER THE INPUT: true; the input reads as it did. -/
def scanNoneSpec : ChangeSpec := { name := "scanNone", fn := fun _ => fun
  | [d1, d2] => { results := [.lit (.bool true)], args := [d1, d2] }
  | _ => none }
def scanNoneRow : OpenClaim := { program := "ythbkemkjkpaoaac", sum := "dfb119c46dba89a443a2d5c1d134042fcf83a3577642e8ac81076b0fb5c1d5be", func := "portolan/portolanlaw16.ScanNone", spec := "scanNone", unfollowed := true, recurses := true, apart := false }
def ScanNoneSaid : Prop := scanNoneRow.holds Try.pinned (OpenSpec.ofChange scanNoneSpec)

/-- ITS FALSE NEIGHBOUR: 'it returns false'. Refute it at one input. -/
def scanNoneWrong : ChangeSpec := { name := "scanNone", fn := fun _ => fun
  | [d1, d2] => { results := [.lit (.bool false)], args := [d1, d2] }
  | _ => none }
def ScanNoneWrongFalsely : Prop := scanNoneRow.holds Try.pinned (OpenSpec.ofChange scanNoneWrong)

/- THE SECOND FORM. 'bulk': how many values and letters a reading holds, each counted each time it is reached (what is shared counts as often as it is met; a slice's spare places count too). A statement '..UptoSaid' is the law's where the arguments, and the package variables that the reading takes, are together of bulk at most 1048576: NARROWER than '..Said'. Prove '..Said' where nothing that the law and all that it calls make is longer than what came in: it says more and counts as full. Else prove '..UptoSaid'. A law counts once. -/
mutual
def uptoBulk {H : Type} : DataW H → Nat
  | .lit (.string bytes) => bytes.length + 1
  | .lit _ => 1
  | .nil => 1
  | .ptr d => uptoBulk d + 1
  | .slice elems spare => uptoBulkAll elems + uptoBulkAll spare + 1
  | .agg parts => uptoBulkAll parts + 1
  | .iface _ d => uptoBulk d + 1
  | .map entries => uptoBulkEntries entries + 1
  | .held _ => 1
def uptoBulkAll {H : Type} : List (DataW H) → Nat
  | [] => 0
  | d :: r => uptoBulk d + uptoBulkAll r
def uptoBulkEntries {H : Type} : List (Lit × DataW H) → Nat
  | [] => 0
  | x :: r => uptoBulkEntry x + uptoBulkEntries r
def uptoBulkEntry {H : Type} : Lit × DataW H → Nat
  | (.string bytes, d) => bytes.length + uptoBulk d + 1
  | (_, d) => uptoBulk d + 1
 end
def uptoSmall : (H : Type) → List (DataW H) → Bool := fun _ ds => decide (uptoBulkAll ds ≤ 1048576)
def OpenSpec.upto (s : _root_.Go.ChangeSpec) : _root_.Go.OpenSpec := { _root_.Go.OpenSpec.ofChange s with cond := some uptoSmall }

/-- 'portolanlaw16.ScanScans', WHERE WHAT IT READS IS OF BULK AT MOST 1048576: true; the input reads as it did. -/
def scanScansUptoRow : OpenClaim := { program := "ythbkemkjkpaoaac", sum := "dfb119c46dba89a443a2d5c1d134042fcf83a3577642e8ac81076b0fb5c1d5be", func := "portolan/portolanlaw16.ScanScans", spec := "scanScans", unfollowed := true, recurses := true, apart := false, narrowed := true }
def ScanScansUptoSaid : Prop := scanScansUptoRow.holds Try.pinned (OpenSpec.upto scanScansSpec)

/-- 'portolanlaw16.ScanMore', WHERE WHAT IT READS IS OF BULK AT MOST 1048576: true; the input reads as it did. -/
def scanMoreUptoRow : OpenClaim := { program := "ythbkemkjkpaoaac", sum := "dfb119c46dba89a443a2d5c1d134042fcf83a3577642e8ac81076b0fb5c1d5be", func := "portolan/portolanlaw16.ScanMore", spec := "scanMore", unfollowed := true, recurses := true, apart := false, narrowed := true }
def ScanMoreUptoSaid : Prop := scanMoreUptoRow.holds Try.pinned (OpenSpec.upto scanMoreSpec)

/-- 'portolanlaw16.ScanAgain', WHERE WHAT IT READS IS OF BULK AT MOST 1048576: true; the input reads as it did. -/
def scanAgainUptoRow : OpenClaim := { program := "ythbkemkjkpaoaac", sum := "dfb119c46dba89a443a2d5c1d134042fcf83a3577642e8ac81076b0fb5c1d5be", func := "portolan/portolanlaw16.ScanAgain", spec := "scanAgain", unfollowed := true, recurses := true, apart := false, narrowed := true }
def ScanAgainUptoSaid : Prop := scanAgainUptoRow.holds Try.pinned (OpenSpec.upto scanAgainSpec)

/-- 'portolanlaw16.ScanAsks', WHERE WHAT IT READS IS OF BULK AT MOST 1048576: true; the input reads as it did. -/
def scanAsksUptoRow : OpenClaim := { program := "ythbkemkjkpaoaac", sum := "dfb119c46dba89a443a2d5c1d134042fcf83a3577642e8ac81076b0fb5c1d5be", func := "portolan/portolanlaw16.ScanAsks", spec := "scanAsks", unfollowed := true, recurses := true, apart := false, narrowed := true }
def ScanAsksUptoSaid : Prop := scanAsksUptoRow.holds Try.pinned (OpenSpec.upto scanAsksSpec)

/-- 'portolanlaw16.ScanNone', WHERE WHAT IT READS IS OF BULK AT MOST 1048576: true; the input reads as it did. -/
def scanNoneUptoRow : OpenClaim := { program := "ythbkemkjkpaoaac", sum := "dfb119c46dba89a443a2d5c1d134042fcf83a3577642e8ac81076b0fb5c1d5be", func := "portolan/portolanlaw16.ScanNone", spec := "scanNone", unfollowed := true, recurses := true, apart := false, narrowed := true }
def ScanNoneUptoSaid : Prop := scanNoneUptoRow.holds Try.pinned (OpenSpec.upto scanNoneSpec)

end Rows
end Go.Proofs.Ythbkemkjkpaoaac
