/-
  DERIVED. GIVEN WITH THE SEED: THE CARDS: each row of YtobbbaagoiejeaaDoorRows.lean that lists a variable, with what it lists TIED to the program's text (the seventh form; the later family's looks); each row that meets fmt, with fmt's text TOLD by the authors' own Lean function (tested against real Go, not proved from fmt's source: count such statements apart). THE CARD IS WHAT COUNTS. Prove the row's statement (the work); the ties are given (YtobbbaagoiejeaaDoorTie.lean); close each card by the builder's one call (the guide's Derived/Test/ToyasCard.lean, 'card_holds'). Laid BY PROGRAM, IN A SANDBOX (cutbox-door.mjs). By AI agents, Wed Nov 11 2026. No macro, syntax, notation, axiom, sorry.
-/
import Derived.Test.YtobbbaagoiejeaaDoorRows
import GoSem.ClaimSeven
namespace Go.Proofs.YtobbbaagoiejeaaDoor
namespace Rows

/-- THE TIED CARD OF 'laws.FnExactSequenceAt'. -/
def fnExactSequenceAtCard : Claim7 := { stood := { row := fnExactSequenceAtRow, standIns := [], harness := (true, "bb45df851990f81823521ea9e9c14959122fd1cd0d5245ef8fadd79d5e01952e"), looks := false }, kinds := [], alts := [], laidByText := true, laidKinds := [.data, .data], laidTests := true, laidLooks := .later }
def FnExactSequenceAtCardSaid : Prop := Claim7.holds Tryd.pinned (.plain (OpenSpec.ofChange fnExactSequenceAtSpec)) fnExactSequenceAtCard

/-- THE TIED CARD OF 'laws.FnExactSumOf'. -/
def fnExactSumOfCard : Claim7 := { stood := { row := fnExactSumOfRow, standIns := [], harness := (true, "bb45df851990f81823521ea9e9c14959122fd1cd0d5245ef8fadd79d5e01952e"), looks := false }, kinds := [], alts := [], laidByText := true, laidKinds := [.data, .data], laidTests := true, laidLooks := .later }
def FnExactSumOfCardSaid : Prop := Claim7.holds Tryd.pinned (.plain (OpenSpec.ofChange fnExactSumOfSpec)) fnExactSumOfCard

/-- THE TIED CARD OF 'laws.FnExactPartWord'. -/
def fnExactPartWordCard : Claim7 := { stood := { row := fnExactPartWordRow, standIns := [], harness := (true, "bb45df851990f81823521ea9e9c14959122fd1cd0d5245ef8fadd79d5e01952e"), looks := false }, kinds := [], alts := [], laidByText := true, laidKinds := [.data, .data], laidTests := true, laidLooks := .later }
def FnExactPartWordCardSaid : Prop := Claim7.holds Tryd.pinned (.plain (OpenSpec.ofChange fnExactPartWordSpec)) fnExactPartWordCard

/-- THE TIED CARD OF 'laws.FnExactSequenceWord'. -/
def fnExactSequenceWordCard : Claim7 := { stood := { row := fnExactSequenceWordRow, standIns := [], harness := (true, "bb45df851990f81823521ea9e9c14959122fd1cd0d5245ef8fadd79d5e01952e"), looks := false }, kinds := [], alts := [], laidByText := true, laidKinds := [.data, .data], laidTests := true, laidLooks := .later }
def FnExactSequenceWordCardSaid : Prop := Claim7.holds Tryd.pinned (.plain (OpenSpec.ofChange fnExactSequenceWordSpec)) fnExactSequenceWordCard

/-- THE TIED CARD OF 'laws.FnExactEqualPowerSums'. -/
def fnExactEqualPowerSumsCard : Claim7 := { stood := { row := fnExactEqualPowerSumsRow, standIns := [], harness := (true, "bb45df851990f81823521ea9e9c14959122fd1cd0d5245ef8fadd79d5e01952e"), looks := false }, kinds := [], alts := [], laidByText := true, laidKinds := [.data, .data], laidTests := true, laidLooks := .later }
def FnExactEqualPowerSumsCardSaid : Prop := Claim7.holds Tryd.pinned (.plain (OpenSpec.ofChange fnExactEqualPowerSumsSpec)) fnExactEqualPowerSumsCard

/-- THE TIED CARD OF 'laws.FnExactFirstPair'. -/
def fnExactFirstPairCard : Claim7 := { stood := { row := fnExactFirstPairRow, standIns := [], harness := (true, "bb45df851990f81823521ea9e9c14959122fd1cd0d5245ef8fadd79d5e01952e"), looks := false }, kinds := [], alts := [], laidByText := true, laidKinds := [.data, .data], laidTests := true, laidLooks := .later }
def FnExactFirstPairCardSaid : Prop := Claim7.holds Tryd.pinned (.plain (OpenSpec.ofChange fnExactFirstPairSpec)) fnExactFirstPairCard

/-- THE TIED CARD OF 'laws.FnExactSplitLines'. -/
def fnExactSplitLinesCard : Claim7 := { stood := { row := fnExactSplitLinesRow, standIns := [], harness := (true, "bb45df851990f81823521ea9e9c14959122fd1cd0d5245ef8fadd79d5e01952e"), looks := false }, kinds := [], alts := [], laidByText := true, laidKinds := [.data, .pinned], laidTests := true, laidLooks := .later }
def FnExactSplitLinesCardSaid : Prop := Claim7.holds Tryd.pinned (.plain (OpenSpec.ofChange fnExactSplitLinesSpec)) fnExactSplitLinesCard

/-- THE SECOND FORM's CARD OF 'laws.FnExactSequenceAt'. -/
def fnExactSequenceAtUptoCard : Claim7 := { stood := { row := fnExactSequenceAtUptoRow, standIns := [], harness := (true, "bb45df851990f81823521ea9e9c14959122fd1cd0d5245ef8fadd79d5e01952e"), looks := false }, kinds := [], alts := [], laidByText := true, laidKinds := [.data, .data], laidTests := true, laidLooks := .later }
def FnExactSequenceAtUptoCardSaid : Prop := Claim7.holds Tryd.pinned (.plain (OpenSpec.upto fnExactSequenceAtSpec)) fnExactSequenceAtUptoCard

/-- THE SECOND FORM's CARD OF 'laws.FnExactSumOf'. -/
def fnExactSumOfUptoCard : Claim7 := { stood := { row := fnExactSumOfUptoRow, standIns := [], harness := (true, "bb45df851990f81823521ea9e9c14959122fd1cd0d5245ef8fadd79d5e01952e"), looks := false }, kinds := [], alts := [], laidByText := true, laidKinds := [.data, .data], laidTests := true, laidLooks := .later }
def FnExactSumOfUptoCardSaid : Prop := Claim7.holds Tryd.pinned (.plain (OpenSpec.upto fnExactSumOfSpec)) fnExactSumOfUptoCard

/-- THE SECOND FORM's CARD OF 'laws.FnExactPartWord'. -/
def fnExactPartWordUptoCard : Claim7 := { stood := { row := fnExactPartWordUptoRow, standIns := [], harness := (true, "bb45df851990f81823521ea9e9c14959122fd1cd0d5245ef8fadd79d5e01952e"), looks := false }, kinds := [], alts := [], laidByText := true, laidKinds := [.data, .data], laidTests := true, laidLooks := .later }
def FnExactPartWordUptoCardSaid : Prop := Claim7.holds Tryd.pinned (.plain (OpenSpec.upto fnExactPartWordSpec)) fnExactPartWordUptoCard

/-- THE SECOND FORM's CARD OF 'laws.FnExactSequenceWord'. -/
def fnExactSequenceWordUptoCard : Claim7 := { stood := { row := fnExactSequenceWordUptoRow, standIns := [], harness := (true, "bb45df851990f81823521ea9e9c14959122fd1cd0d5245ef8fadd79d5e01952e"), looks := false }, kinds := [], alts := [], laidByText := true, laidKinds := [.data, .data], laidTests := true, laidLooks := .later }
def FnExactSequenceWordUptoCardSaid : Prop := Claim7.holds Tryd.pinned (.plain (OpenSpec.upto fnExactSequenceWordSpec)) fnExactSequenceWordUptoCard

/-- THE SECOND FORM's CARD OF 'laws.FnExactEqualPowerSums'. -/
def fnExactEqualPowerSumsUptoCard : Claim7 := { stood := { row := fnExactEqualPowerSumsUptoRow, standIns := [], harness := (true, "bb45df851990f81823521ea9e9c14959122fd1cd0d5245ef8fadd79d5e01952e"), looks := false }, kinds := [], alts := [], laidByText := true, laidKinds := [.data, .data], laidTests := true, laidLooks := .later }
def FnExactEqualPowerSumsUptoCardSaid : Prop := Claim7.holds Tryd.pinned (.plain (OpenSpec.upto fnExactEqualPowerSumsSpec)) fnExactEqualPowerSumsUptoCard

/-- THE SECOND FORM's CARD OF 'laws.FnExactFirstPair'. -/
def fnExactFirstPairUptoCard : Claim7 := { stood := { row := fnExactFirstPairUptoRow, standIns := [], harness := (true, "bb45df851990f81823521ea9e9c14959122fd1cd0d5245ef8fadd79d5e01952e"), looks := false }, kinds := [], alts := [], laidByText := true, laidKinds := [.data, .data], laidTests := true, laidLooks := .later }
def FnExactFirstPairUptoCardSaid : Prop := Claim7.holds Tryd.pinned (.plain (OpenSpec.upto fnExactFirstPairSpec)) fnExactFirstPairUptoCard

/-- THE SECOND FORM's CARD OF 'laws.FnExactSplitLines'. -/
def fnExactSplitLinesUptoCard : Claim7 := { stood := { row := fnExactSplitLinesUptoRow, standIns := [], harness := (true, "bb45df851990f81823521ea9e9c14959122fd1cd0d5245ef8fadd79d5e01952e"), looks := false }, kinds := [], alts := [], laidByText := true, laidKinds := [.data, .pinned], laidTests := true, laidLooks := .later }
def FnExactSplitLinesUptoCardSaid : Prop := Claim7.holds Tryd.pinned (.plain (OpenSpec.upto fnExactSplitLinesSpec)) fnExactSplitLinesUptoCard
end Rows
end Go.Proofs.YtobbbaagoiejeaaDoor
