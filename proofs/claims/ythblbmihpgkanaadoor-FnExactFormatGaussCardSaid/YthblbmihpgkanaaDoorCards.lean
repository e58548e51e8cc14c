/-
  DERIVED. GIVEN WITH THE SEED: THE CARDS: each row of YthblbmihpgkanaaDoorRows.lean that lists a variable, with what it lists TIED to the program's text (the seventh form; the later family's looks); each row that meets fmt, with fmt's text TOLD by the authors' own Lean function (tested against real Go, not proved from fmt's source: count such statements apart). THE CARD IS WHAT COUNTS. Prove the row's statement (the work); the ties are given (YthblbmihpgkanaaDoorTie.lean); close each card by the builder's one call (the guide's Derived/Test/ToyasCard.lean, 'card_holds'). Laid BY PROGRAM, IN A SANDBOX (cutbox-door.mjs). By AI agents, Wed Nov 11 2026. No macro, syntax, notation, axiom, sorry.
-/
import Derived.Test.YthblbmihpgkanaaDoorRows
import GoSem.ClaimSeven
namespace Go.Proofs.YthblbmihpgkanaaDoor
namespace Rows

/-- THE TIED CARD OF 'laws.FnComplex'. -/
def fnComplexCard : Claim7 := { stood := { row := fnComplexRow, standIns := [], harness := (true, "f6c85b78d37ad99c42515b32bbea81f735ce407ed9cd0a76409e7b7bdd778912"), looks := false }, kinds := [], alts := [], laidByText := true, laidKinds := [.data, .data, .data], laidTests := true, laidLooks := .later }
def FnComplexCardSaid : Prop := Claim7.holds Tryd.pinned (.plain (OpenSpec.ofChange fnComplexSpec)) fnComplexCard

/-- THE TIED CARD OF 'laws.FnExactFormatGauss'. -/
def fnExactFormatGaussCard : Claim7 := { stood := { row := fnExactFormatGaussRow, standIns := [], harness := (true, "f6c85b78d37ad99c42515b32bbea81f735ce407ed9cd0a76409e7b7bdd778912"), looks := false }, kinds := [], alts := [], laidByText := true, laidKinds := [.data, .data, .data], laidTests := true, laidLooks := .later }
def FnExactFormatGaussCardSaid : Prop := Claim7.holds Tryd.pinned (.plain (OpenSpec.ofChange fnExactFormatGaussSpec)) fnExactFormatGaussCard

/-- THE SECOND FORM's CARD OF 'laws.FnComplex'. -/
def fnComplexUptoCard : Claim7 := { stood := { row := fnComplexUptoRow, standIns := [], harness := (true, "f6c85b78d37ad99c42515b32bbea81f735ce407ed9cd0a76409e7b7bdd778912"), looks := false }, kinds := [], alts := [], laidByText := true, laidKinds := [.data, .data, .data], laidTests := true, laidLooks := .later }
def FnComplexUptoCardSaid : Prop := Claim7.holds Tryd.pinned (.plain (OpenSpec.upto fnComplexSpec)) fnComplexUptoCard

/-- THE SECOND FORM's CARD OF 'laws.FnExactFormatGauss'. -/
def fnExactFormatGaussUptoCard : Claim7 := { stood := { row := fnExactFormatGaussUptoRow, standIns := [], harness := (true, "f6c85b78d37ad99c42515b32bbea81f735ce407ed9cd0a76409e7b7bdd778912"), looks := false }, kinds := [], alts := [], laidByText := true, laidKinds := [.data, .data, .data], laidTests := true, laidLooks := .later }
def FnExactFormatGaussUptoCardSaid : Prop := Claim7.holds Tryd.pinned (.plain (OpenSpec.upto fnExactFormatGaussSpec)) fnExactFormatGaussUptoCard
end Rows
end Go.Proofs.YthblbmihpgkanaaDoor
