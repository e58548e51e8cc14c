/-
  DERIVED. GIVEN WITH THE SEED: THE CARDS: each row of YtoihjapbidbpdaaDoorRows.lean that lists a variable, with what it lists TIED to the program's text (the seventh form; the later family's looks); each row that meets fmt, with fmt's text TOLD by the authors' own Lean function (tested against real Go, not proved from fmt's source: count such statements apart). THE CARD IS WHAT COUNTS. Prove the row's statement (the work); the ties are given (YtoihjapbidbpdaaDoorTie.lean); close each card by the builder's one call (the guide's Derived/Test/ToyasCard.lean, 'card_holds'). Laid BY PROGRAM, IN A SANDBOX (cutbox-door.mjs). By AI agents, Wed Nov 11 2026. No macro, syntax, notation, axiom, sorry.
-/
import Derived.Test.YtoihjapbidbpdaaDoorRows
import GoSem.ClaimSeven
namespace Go.Proofs.YtoihjapbidbpdaaDoor
namespace Rows

/-- THE TIED CARD OF 'laws.FnExactSameLists'. -/
def fnExactSameListsCard : Claim7 := { stood := { row := fnExactSameListsRow, standIns := [], harness := (true, "0a875b5106bdca0f4634da6eb816fdc7ab2124f9689d44fd3a91969f1124594f"), looks := false }, kinds := [], alts := [], laidByText := true, laidKinds := [.data, .data, .data], laidTests := true, laidLooks := .later }
def FnExactSameListsCardSaid : Prop := Claim7.holds Tryd.pinned (.plain (OpenSpec.ofChange fnExactSameListsSpec)) fnExactSameListsCard

/-- THE TIED CARD OF 'laws.FnExactReduceMachine'. -/
def fnExactReduceMachineCard : Claim7 := { stood := { row := fnExactReduceMachineRow, standIns := [], harness := (true, "0a875b5106bdca0f4634da6eb816fdc7ab2124f9689d44fd3a91969f1124594f"), looks := false }, kinds := [], alts := [], laidByText := true, laidKinds := [.data, .data, .data], laidTests := true, laidLooks := .later }
def FnExactReduceMachineCardSaid : Prop := Claim7.holds Tryd.pinned (.plain (OpenSpec.ofChange fnExactReduceMachineSpec)) fnExactReduceMachineCard

/-- THE SECOND FORM's CARD OF 'laws.FnExactSameLists'. -/
def fnExactSameListsUptoCard : Claim7 := { stood := { row := fnExactSameListsUptoRow, standIns := [], harness := (true, "0a875b5106bdca0f4634da6eb816fdc7ab2124f9689d44fd3a91969f1124594f"), looks := false }, kinds := [], alts := [], laidByText := true, laidKinds := [.data, .data, .data], laidTests := true, laidLooks := .later }
def FnExactSameListsUptoCardSaid : Prop := Claim7.holds Tryd.pinned (.plain (OpenSpec.upto fnExactSameListsSpec)) fnExactSameListsUptoCard

/-- THE SECOND FORM's CARD OF 'laws.FnExactReduceMachine'. -/
def fnExactReduceMachineUptoCard : Claim7 := { stood := { row := fnExactReduceMachineUptoRow, standIns := [], harness := (true, "0a875b5106bdca0f4634da6eb816fdc7ab2124f9689d44fd3a91969f1124594f"), looks := false }, kinds := [], alts := [], laidByText := true, laidKinds := [.data, .data, .data], laidTests := true, laidLooks := .later }
def FnExactReduceMachineUptoCardSaid : Prop := Claim7.holds Tryd.pinned (.plain (OpenSpec.upto fnExactReduceMachineSpec)) fnExactReduceMachineUptoCard
end Rows
end Go.Proofs.YtoihjapbidbpdaaDoor
