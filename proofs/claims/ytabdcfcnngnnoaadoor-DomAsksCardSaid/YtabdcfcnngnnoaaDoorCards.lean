/-
  DERIVED. GIVEN WITH THE SEED: THE CARDS: each row of YtabdcfcnngnnoaaDoorRows.lean that lists a variable, with what it lists TIED to the program's text (the seventh form; the later family's looks); each row that meets fmt, with fmt's text TOLD by the authors' own Lean function (tested against real Go, not proved from fmt's source: count such statements apart). THE CARD IS WHAT COUNTS. Prove the row's statement (the work); the ties are given (YtabdcfcnngnnoaaDoorTie.lean); close each card by the builder's one call (the guide's Derived/Test/ToyasCard.lean, 'card_holds'). Laid BY PROGRAM, IN A SANDBOX (cutbox-door.mjs). By AI agents, Wed Nov 11 2026. No macro, syntax, notation, axiom, sorry.
-/
import Derived.Test.YtabdcfcnngnnoaaDoorRows
import GoSem.ClaimSeven
namespace Go.Proofs.YtabdcfcnngnnoaaDoor
namespace Rows

/-- THE TIED CARD OF 'portolanlaw06.DomAsks'. -/
def domAsksCard : Claim7 := { stood := { row := domAsksRow, standIns := [], harness := (true, "c48e7227d8990d1b9b581eacc587b13a879f80e1ec383d43260bd50dc884748b"), looks := false }, kinds := [], alts := [], laidByText := true, laidKinds := [.data], laidTests := true, laidLooks := .later }
def DomAsksCardSaid : Prop := Claim7.holds Tryd.pinned (.plain (OpenSpec.ofChange domAsksSpec)) domAsksCard

/-- THE TIED CARD OF 'portolanlaw07.LoopEdges'. -/
def loopEdgesCard : Claim7 := { stood := { row := loopEdgesRow, standIns := [], harness := (true, "c48e7227d8990d1b9b581eacc587b13a879f80e1ec383d43260bd50dc884748b"), looks := false }, kinds := [], alts := [], laidByText := true, laidKinds := [.data], laidTests := true, laidLooks := .later }
def LoopEdgesCardSaid : Prop := Claim7.holds Tryd.pinned (.plain (OpenSpec.ofChange loopEdgesSpec)) loopEdgesCard

/-- THE TIED CARD OF 'portolanlaw07.LoopBodies'. -/
def loopBodiesCard : Claim7 := { stood := { row := loopBodiesRow, standIns := [], harness := (true, "c48e7227d8990d1b9b581eacc587b13a879f80e1ec383d43260bd50dc884748b"), looks := false }, kinds := [], alts := [], laidByText := true, laidKinds := [.data], laidTests := true, laidLooks := .later }
def LoopBodiesCardSaid : Prop := Claim7.holds Tryd.pinned (.plain (OpenSpec.ofChange loopBodiesSpec)) loopBodiesCard

/-- THE TIED CARD OF 'portolanlaw07.LoopRound'. -/
def loopRoundCard : Claim7 := { stood := { row := loopRoundRow, standIns := [], harness := (true, "c48e7227d8990d1b9b581eacc587b13a879f80e1ec383d43260bd50dc884748b"), looks := false }, kinds := [], alts := [], laidByText := true, laidKinds := [.data], laidTests := true, laidLooks := .later }
def LoopRoundCardSaid : Prop := Claim7.holds Tryd.pinned (.plain (OpenSpec.ofChange loopRoundSpec)) loopRoundCard

/-- THE TIED CARD OF 'portolanlaw07.LoopDeep'. -/
def loopDeepCard : Claim7 := { stood := { row := loopDeepRow, standIns := [], harness := (true, "c48e7227d8990d1b9b581eacc587b13a879f80e1ec383d43260bd50dc884748b"), looks := false }, kinds := [], alts := [], laidByText := true, laidKinds := [.data], laidTests := true, laidLooks := .later }
def LoopDeepCardSaid : Prop := Claim7.holds Tryd.pinned (.plain (OpenSpec.ofChange loopDeepSpec)) loopDeepCard

/-- THE TIED CARD OF 'portolanlaw07.LoopNested'. -/
def loopNestedCard : Claim7 := { stood := { row := loopNestedRow, standIns := [], harness := (true, "c48e7227d8990d1b9b581eacc587b13a879f80e1ec383d43260bd50dc884748b"), looks := false }, kinds := [], alts := [], laidByText := true, laidKinds := [.data], laidTests := true, laidLooks := .later }
def LoopNestedCardSaid : Prop := Claim7.holds Tryd.pinned (.plain (OpenSpec.ofChange loopNestedSpec)) loopNestedCard

/-- THE SECOND FORM's CARD OF 'portolanlaw06.DomAsks'. -/
def domAsksUptoCard : Claim7 := { stood := { row := domAsksUptoRow, standIns := [], harness := (true, "c48e7227d8990d1b9b581eacc587b13a879f80e1ec383d43260bd50dc884748b"), looks := false }, kinds := [], alts := [], laidByText := true, laidKinds := [.data], laidTests := true, laidLooks := .later }
def DomAsksUptoCardSaid : Prop := Claim7.holds Tryd.pinned (.plain (OpenSpec.upto domAsksSpec)) domAsksUptoCard

/-- THE SECOND FORM's CARD OF 'portolanlaw07.LoopEdges'. -/
def loopEdgesUptoCard : Claim7 := { stood := { row := loopEdgesUptoRow, standIns := [], harness := (true, "c48e7227d8990d1b9b581eacc587b13a879f80e1ec383d43260bd50dc884748b"), looks := false }, kinds := [], alts := [], laidByText := true, laidKinds := [.data], laidTests := true, laidLooks := .later }
def LoopEdgesUptoCardSaid : Prop := Claim7.holds Tryd.pinned (.plain (OpenSpec.upto loopEdgesSpec)) loopEdgesUptoCard

/-- THE SECOND FORM's CARD OF 'portolanlaw07.LoopBodies'. -/
def loopBodiesUptoCard : Claim7 := { stood := { row := loopBodiesUptoRow, standIns := [], harness := (true, "c48e7227d8990d1b9b581eacc587b13a879f80e1ec383d43260bd50dc884748b"), looks := false }, kinds := [], alts := [], laidByText := true, laidKinds := [.data], laidTests := true, laidLooks := .later }
def LoopBodiesUptoCardSaid : Prop := Claim7.holds Tryd.pinned (.plain (OpenSpec.upto loopBodiesSpec)) loopBodiesUptoCard

/-- THE SECOND FORM's CARD OF 'portolanlaw07.LoopRound'. -/
def loopRoundUptoCard : Claim7 := { stood := { row := loopRoundUptoRow, standIns := [], harness := (true, "c48e7227d8990d1b9b581eacc587b13a879f80e1ec383d43260bd50dc884748b"), looks := false }, kinds := [], alts := [], laidByText := true, laidKinds := [.data], laidTests := true, laidLooks := .later }
def LoopRoundUptoCardSaid : Prop := Claim7.holds Tryd.pinned (.plain (OpenSpec.upto loopRoundSpec)) loopRoundUptoCard

/-- THE SECOND FORM's CARD OF 'portolanlaw07.LoopDeep'. -/
def loopDeepUptoCard : Claim7 := { stood := { row := loopDeepUptoRow, standIns := [], harness := (true, "c48e7227d8990d1b9b581eacc587b13a879f80e1ec383d43260bd50dc884748b"), looks := false }, kinds := [], alts := [], laidByText := true, laidKinds := [.data], laidTests := true, laidLooks := .later }
def LoopDeepUptoCardSaid : Prop := Claim7.holds Tryd.pinned (.plain (OpenSpec.upto loopDeepSpec)) loopDeepUptoCard

/-- THE SECOND FORM's CARD OF 'portolanlaw07.LoopNested'. -/
def loopNestedUptoCard : Claim7 := { stood := { row := loopNestedUptoRow, standIns := [], harness := (true, "c48e7227d8990d1b9b581eacc587b13a879f80e1ec383d43260bd50dc884748b"), looks := false }, kinds := [], alts := [], laidByText := true, laidKinds := [.data], laidTests := true, laidLooks := .later }
def LoopNestedUptoCardSaid : Prop := Claim7.holds Tryd.pinned (.plain (OpenSpec.upto loopNestedSpec)) loopNestedUptoCard
end Rows
end Go.Proofs.YtabdcfcnngnnoaaDoor
