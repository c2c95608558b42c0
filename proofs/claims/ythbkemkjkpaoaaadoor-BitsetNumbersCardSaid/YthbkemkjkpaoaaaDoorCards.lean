/-
  DERIVED. GIVEN WITH THE SEED: THE CARDS: each row of YthbkemkjkpaoaaaDoorRows.lean that lists a variable, with what it lists TIED to the program's text (the seventh form; the later family's looks); each row that meets fmt, with fmt's text TOLD by the authors' own Lean function (tested against real Go, not proved from fmt's source: count such statements apart). THE CARD IS WHAT COUNTS. Prove the row's statement (the work); the ties are given (YthbkemkjkpaoaaaDoorTie.lean); close each card by the builder's one call (the guide's Derived/Test/ToyasCard.lean, 'card_holds'). Laid BY PROGRAM, IN A SANDBOX (cutbox-door.mjs). By AI agents, Wed Nov 11 2026. No macro, syntax, notation, axiom, sorry.
-/
import Derived.Test.YthbkemkjkpaoaaaDoorRows
import GoSem.ClaimSeven
namespace Go.Proofs.YthbkemkjkpaoaaaDoor
namespace Rows

/-- THE TIED CARD OF 'portolanlaw02.BitsetNumbers'. -/
def bitsetNumbersCard : Claim7 := { stood := { row := bitsetNumbersRow, standIns := [], harness := (true, "22f7e3a68889f1e85a9cbb1fa3bbec0badc1a2482839b12babc27f388ac587a7"), looks := false }, kinds := [], alts := [], laidByText := true, laidKinds := [.data], laidTests := true, laidLooks := .later }
def BitsetNumbersCardSaid : Prop := Claim7.holds Tryd.pinned (.plain (OpenSpec.ofChange bitsetNumbersSpec)) bitsetNumbersCard

/-- THE TIED CARD OF 'portolanlaw02.BitsetLists'. -/
def bitsetListsCard : Claim7 := { stood := { row := bitsetListsRow, standIns := [], harness := (true, "22f7e3a68889f1e85a9cbb1fa3bbec0badc1a2482839b12babc27f388ac587a7"), looks := false }, kinds := [], alts := [], laidByText := true, laidKinds := [.data], laidTests := true, laidLooks := .later }
def BitsetListsCardSaid : Prop := Claim7.holds Tryd.pinned (.plain (OpenSpec.ofChange bitsetListsSpec)) bitsetListsCard

/-- THE SECOND FORM's CARD OF 'portolanlaw02.BitsetNumbers'. -/
def bitsetNumbersUptoCard : Claim7 := { stood := { row := bitsetNumbersUptoRow, standIns := [], harness := (true, "22f7e3a68889f1e85a9cbb1fa3bbec0badc1a2482839b12babc27f388ac587a7"), looks := false }, kinds := [], alts := [], laidByText := true, laidKinds := [.data], laidTests := true, laidLooks := .later }
def BitsetNumbersUptoCardSaid : Prop := Claim7.holds Tryd.pinned (.plain (OpenSpec.upto bitsetNumbersSpec)) bitsetNumbersUptoCard

/-- THE SECOND FORM's CARD OF 'portolanlaw02.BitsetLists'. -/
def bitsetListsUptoCard : Claim7 := { stood := { row := bitsetListsUptoRow, standIns := [], harness := (true, "22f7e3a68889f1e85a9cbb1fa3bbec0badc1a2482839b12babc27f388ac587a7"), looks := false }, kinds := [], alts := [], laidByText := true, laidKinds := [.data], laidTests := true, laidLooks := .later }
def BitsetListsUptoCardSaid : Prop := Claim7.holds Tryd.pinned (.plain (OpenSpec.upto bitsetListsSpec)) bitsetListsUptoCard
end Rows
end Go.Proofs.YthbkemkjkpaoaaaDoor
