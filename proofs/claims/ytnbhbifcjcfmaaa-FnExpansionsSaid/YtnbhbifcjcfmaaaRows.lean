/-
  No cell of these rows narrows 'for every input' (looked for: loops, veiled, ifaces, maps, wideKeys, modest, calm, conditions, laid).
  DERIVED. THE GIVEN ROWS OF THIS SEAT. 8 by the template 'for every input the law returns true; each argument reads behind the call as it read before'; 0 by the template 'total and deterministic' (their statements: YtnbhbifcjcfmaaaTotals.lean).
  GIVEN WITH THE SEED: the statements are not yours to turn. If you find one false, say at which input.
  Laid BY PROGRAM, IN A SANDBOX (cutbox-rows.mjs): the forced cells as the released guide's own fill.sh prints them over the translation d828f8bdda7d7e0e… (all of the seat's roots in one cut). By AI agents, Wed Nov 11 2026. No macro, syntax, notation, axiom, sorry.
-/
import Derived.Test.YtnbhbifcjcfmaaaChecked
import GoSem.Claim
import GoSem.ClaimJoined
import GoSem.ClaimMapViews
import Derived.JoinedTies
import Derived.KernelRfl
namespace Go.Proofs.Ytnbhbifcjcfmaaa
/- THE CELL 'sum', in the pinned program and in every row, IS THE sha256 OF THE DUMP (.gsa) THAT YtnbhbifcjcfmaaaProg.lean LOADS. Nothing in Lean hashes anything: it is a label: what it is worth is what the hold of that sum in a sandbox is worth. -/
noncomputable def Try.pinned : Pinned := { name := "ytnbhbifcjcfmaaa", sum := "d828f8bdda7d7e0e93ebf3d3d4a1f461de7f24f9a854df920c563b00fa53c6cb", checked := Try.checked }
namespace Rows
def none {H : Type} : Left H := { results := [], args := [] }

/-- 'laws.FnExpansions': WHATEVER THE INPUT: true; the input reads as it did. -/
def fnExpansionsSpec : ChangeSpec := { name := "fnExpansions", fn := fun _ => fun
  | [d] => { results := [.lit (.bool true)], args := [d] }
  | _ => none }
def fnExpansionsRow : OpenClaim := { program := "ytnbhbifcjcfmaaa", sum := "d828f8bdda7d7e0e93ebf3d3d4a1f461de7f24f9a854df920c563b00fa53c6cb", func := "loop.example/g03203/laws.FnExpansions", spec := "fnExpansions", unfollowed := true, recurses := true, apart := false }
def FnExpansionsSaid : Prop := fnExpansionsRow.holds Try.pinned (OpenSpec.ofChange fnExpansionsSpec)

/-- ITS FALSE NEIGHBOUR: 'it returns false'. Refute it at one input. -/
def fnExpansionsWrong : ChangeSpec := { name := "fnExpansions", fn := fun _ => fun
  | [d] => { results := [.lit (.bool false)], args := [d] }
  | _ => none }
def FnExpansionsWrongFalsely : Prop := fnExpansionsRow.holds Try.pinned (OpenSpec.ofChange fnExpansionsWrong)

/-- 'laws.FnExactPeriodLength': WHATEVER THE INPUT: true; the input reads as it did. -/
def fnExactPeriodLengthSpec : ChangeSpec := { name := "fnExactPeriodLength", fn := fun _ => fun
  | [d1, d2, d3] => { results := [.lit (.bool true)], args := [d1, d2, d3] }
  | _ => none }
def fnExactPeriodLengthRow : OpenClaim := { program := "ytnbhbifcjcfmaaa", sum := "d828f8bdda7d7e0e93ebf3d3d4a1f461de7f24f9a854df920c563b00fa53c6cb", func := "loop.example/g03203/laws.FnExactPeriodLength", spec := "fnExactPeriodLength", apart := false }
def FnExactPeriodLengthSaid : Prop := fnExactPeriodLengthRow.holds Try.pinned (OpenSpec.ofChange fnExactPeriodLengthSpec)

/-- ITS FALSE NEIGHBOUR: 'it returns false'. Refute it at one input. -/
def fnExactPeriodLengthWrong : ChangeSpec := { name := "fnExactPeriodLength", fn := fun _ => fun
  | [d1, d2, d3] => { results := [.lit (.bool false)], args := [d1, d2, d3] }
  | _ => none }
def FnExactPeriodLengthWrongFalsely : Prop := fnExactPeriodLengthRow.holds Try.pinned (OpenSpec.ofChange fnExactPeriodLengthWrong)

/-- 'laws.FnExactPreLength': WHATEVER THE INPUT: true; the input reads as it did. -/
def fnExactPreLengthSpec : ChangeSpec := { name := "fnExactPreLength", fn := fun _ => fun
  | [d1, d2, d3] => { results := [.lit (.bool true)], args := [d1, d2, d3] }
  | _ => none }
def fnExactPreLengthRow : OpenClaim := { program := "ytnbhbifcjcfmaaa", sum := "d828f8bdda7d7e0e93ebf3d3d4a1f461de7f24f9a854df920c563b00fa53c6cb", func := "loop.example/g03203/laws.FnExactPreLength", spec := "fnExactPreLength", apart := false }
def FnExactPreLengthSaid : Prop := fnExactPreLengthRow.holds Try.pinned (OpenSpec.ofChange fnExactPreLengthSpec)

/-- ITS FALSE NEIGHBOUR: 'it returns false'. Refute it at one input. -/
def fnExactPreLengthWrong : ChangeSpec := { name := "fnExactPreLength", fn := fun _ => fun
  | [d1, d2, d3] => { results := [.lit (.bool false)], args := [d1, d2, d3] }
  | _ => none }
def FnExactPreLengthWrongFalsely : Prop := fnExactPreLengthRow.holds Try.pinned (OpenSpec.ofChange fnExactPreLengthWrong)

/-- 'laws.FnExactIsFinite': WHATEVER THE INPUT: true; the input reads as it did. -/
def fnExactIsFiniteSpec : ChangeSpec := { name := "fnExactIsFinite", fn := fun _ => fun
  | [d1, d2, d3] => { results := [.lit (.bool true)], args := [d1, d2, d3] }
  | _ => none }
def fnExactIsFiniteRow : OpenClaim := { program := "ytnbhbifcjcfmaaa", sum := "d828f8bdda7d7e0e93ebf3d3d4a1f461de7f24f9a854df920c563b00fa53c6cb", func := "loop.example/g03203/laws.FnExactIsFinite", spec := "fnExactIsFinite", apart := false }
def FnExactIsFiniteSaid : Prop := fnExactIsFiniteRow.holds Try.pinned (OpenSpec.ofChange fnExactIsFiniteSpec)

/-- ITS FALSE NEIGHBOUR: 'it returns false'. Refute it at one input. -/
def fnExactIsFiniteWrong : ChangeSpec := { name := "fnExactIsFinite", fn := fun _ => fun
  | [d1, d2, d3] => { results := [.lit (.bool false)], args := [d1, d2, d3] }
  | _ => none }
def FnExactIsFiniteWrongFalsely : Prop := fnExactIsFiniteRow.holds Try.pinned (OpenSpec.ofChange fnExactIsFiniteWrong)

/-- 'laws.FnExactFormatExpansion': WHATEVER THE INPUT: true; the input reads as it did. -/
def fnExactFormatExpansionSpec : ChangeSpec := { name := "fnExactFormatExpansion", fn := fun _ => fun
  | [d1, d2, d3] => { results := [.lit (.bool true)], args := [d1, d2, d3] }
  | _ => none }
def fnExactFormatExpansionRow : OpenClaim := { program := "ytnbhbifcjcfmaaa", sum := "d828f8bdda7d7e0e93ebf3d3d4a1f461de7f24f9a854df920c563b00fa53c6cb", func := "loop.example/g03203/laws.FnExactFormatExpansion", spec := "fnExactFormatExpansion", unfollowed := true, recurses := true, apart := false }
def FnExactFormatExpansionSaid : Prop := fnExactFormatExpansionRow.holds Try.pinned (OpenSpec.ofChange fnExactFormatExpansionSpec)

/-- ITS FALSE NEIGHBOUR: 'it returns false'. Refute it at one input. -/
def fnExactFormatExpansionWrong : ChangeSpec := { name := "fnExactFormatExpansion", fn := fun _ => fun
  | [d1, d2, d3] => { results := [.lit (.bool false)], args := [d1, d2, d3] }
  | _ => none }
def FnExactFormatExpansionWrongFalsely : Prop := fnExactFormatExpansionRow.holds Try.pinned (OpenSpec.ofChange fnExactFormatExpansionWrong)

/-- 'laws.FnExactHasHalves': WHATEVER THE INPUT: true; the input reads as it did. -/
def fnExactHasHalvesSpec : ChangeSpec := { name := "fnExactHasHalves", fn := fun _ => fun
  | [d1, d2, d3] => { results := [.lit (.bool true)], args := [d1, d2, d3] }
  | _ => none }
def fnExactHasHalvesRow : OpenClaim := { program := "ytnbhbifcjcfmaaa", sum := "d828f8bdda7d7e0e93ebf3d3d4a1f461de7f24f9a854df920c563b00fa53c6cb", func := "loop.example/g03203/laws.FnExactHasHalves", spec := "fnExactHasHalves", apart := false }
def FnExactHasHalvesSaid : Prop := fnExactHasHalvesRow.holds Try.pinned (OpenSpec.ofChange fnExactHasHalvesSpec)

/-- ITS FALSE NEIGHBOUR: 'it returns false'. Refute it at one input. -/
def fnExactHasHalvesWrong : ChangeSpec := { name := "fnExactHasHalves", fn := fun _ => fun
  | [d1, d2, d3] => { results := [.lit (.bool false)], args := [d1, d2, d3] }
  | _ => none }
def FnExactHasHalvesWrongFalsely : Prop := fnExactHasHalvesRow.holds Try.pinned (OpenSpec.ofChange fnExactHasHalvesWrong)

/-- 'laws.FnExactExpansionOf': WHATEVER THE INPUT: true; the input reads as it did. -/
def fnExactExpansionOfSpec : ChangeSpec := { name := "fnExactExpansionOf", fn := fun _ => fun
  | [d1, d2, d3] => { results := [.lit (.bool true)], args := [d1, d2, d3] }
  | _ => none }
def fnExactExpansionOfRow : OpenClaim := { program := "ytnbhbifcjcfmaaa", sum := "d828f8bdda7d7e0e93ebf3d3d4a1f461de7f24f9a854df920c563b00fa53c6cb", func := "loop.example/g03203/laws.FnExactExpansionOf", spec := "fnExactExpansionOf", apart := false }
def FnExactExpansionOfSaid : Prop := fnExactExpansionOfRow.holds Try.pinned (OpenSpec.ofChange fnExactExpansionOfSpec)

/-- ITS FALSE NEIGHBOUR: 'it returns false'. Refute it at one input. -/
def fnExactExpansionOfWrong : ChangeSpec := { name := "fnExactExpansionOf", fn := fun _ => fun
  | [d1, d2, d3] => { results := [.lit (.bool false)], args := [d1, d2, d3] }
  | _ => none }
def FnExactExpansionOfWrongFalsely : Prop := fnExactExpansionOfRow.holds Try.pinned (OpenSpec.ofChange fnExactExpansionOfWrong)

/-- 'laws.FnExactFromExpansion': WHATEVER THE INPUT: true; the input reads as it did. -/
def fnExactFromExpansionSpec : ChangeSpec := { name := "fnExactFromExpansion", fn := fun _ => fun
  | [d1, d2, d3] => { results := [.lit (.bool true)], args := [d1, d2, d3] }
  | _ => none }
def fnExactFromExpansionRow : OpenClaim := { program := "ytnbhbifcjcfmaaa", sum := "d828f8bdda7d7e0e93ebf3d3d4a1f461de7f24f9a854df920c563b00fa53c6cb", func := "loop.example/g03203/laws.FnExactFromExpansion", spec := "fnExactFromExpansion", unfollowed := true, recurses := true, apart := false }
def FnExactFromExpansionSaid : Prop := fnExactFromExpansionRow.holds Try.pinned (OpenSpec.ofChange fnExactFromExpansionSpec)

/-- ITS FALSE NEIGHBOUR: 'it returns false'. Refute it at one input. -/
def fnExactFromExpansionWrong : ChangeSpec := { name := "fnExactFromExpansion", fn := fun _ => fun
  | [d1, d2, d3] => { results := [.lit (.bool false)], args := [d1, d2, d3] }
  | _ => none }
def FnExactFromExpansionWrongFalsely : Prop := fnExactFromExpansionRow.holds Try.pinned (OpenSpec.ofChange fnExactFromExpansionWrong)

/- THE SECOND FORM. 'bulk': how many values and letters a reading holds, each counted each time it is reached (what is shared counts as often as it is met; a slice's spare places count too). A statement '..UptoSaid' is the law's where the arguments, and the package variables that the reading takes, are together of bulk at most 1048576: NARROWER than '..Said'. Prove '..Said' where nothing that the law and all that it calls make is longer than what came in: it says more and counts as full. Else prove '..UptoSaid'. A law counts once. -/
mutual
def uptoBulk {H : Type} : DataW H → Nat
  | .lit (.string bytes) => bytes.length + 1
  | .lit _ => 1
  | .nil => 1
  | .ptr d => uptoBulk d + 1
  | .slice elems spare => uptoBulkAll elems + uptoBulkAll spare + 1
  | .agg parts => uptoBulkAll parts + 1
  | .iface _ d => uptoBulk d + 1
  | .map entries => uptoBulkEntries entries + 1
  | .held _ => 1
def uptoBulkAll {H : Type} : List (DataW H) → Nat
  | [] => 0
  | d :: r => uptoBulk d + uptoBulkAll r
def uptoBulkEntries {H : Type} : List (Lit × DataW H) → Nat
  | [] => 0
  | x :: r => uptoBulkEntry x + uptoBulkEntries r
def uptoBulkEntry {H : Type} : Lit × DataW H → Nat
  | (.string bytes, d) => bytes.length + uptoBulk d + 1
  | (_, d) => uptoBulk d + 1
 end
def uptoSmall : (H : Type) → List (DataW H) → Bool := fun _ ds => decide (uptoBulkAll ds ≤ 1048576)
def OpenSpec.upto (s : _root_.Go.ChangeSpec) : _root_.Go.OpenSpec := { _root_.Go.OpenSpec.ofChange s with cond := some uptoSmall }

/-- 'laws.FnExpansions', WHERE WHAT IT READS IS OF BULK AT MOST 1048576: true; the input reads as it did. -/
def fnExpansionsUptoRow : OpenClaim := { program := "ytnbhbifcjcfmaaa", sum := "d828f8bdda7d7e0e93ebf3d3d4a1f461de7f24f9a854df920c563b00fa53c6cb", func := "loop.example/g03203/laws.FnExpansions", spec := "fnExpansions", unfollowed := true, recurses := true, apart := false, narrowed := true }
def FnExpansionsUptoSaid : Prop := fnExpansionsUptoRow.holds Try.pinned (OpenSpec.upto fnExpansionsSpec)

/-- 'laws.FnExactPeriodLength', WHERE WHAT IT READS IS OF BULK AT MOST 1048576: true; the input reads as it did. -/
def fnExactPeriodLengthUptoRow : OpenClaim := { program := "ytnbhbifcjcfmaaa", sum := "d828f8bdda7d7e0e93ebf3d3d4a1f461de7f24f9a854df920c563b00fa53c6cb", func := "loop.example/g03203/laws.FnExactPeriodLength", spec := "fnExactPeriodLength", apart := false, narrowed := true }
def FnExactPeriodLengthUptoSaid : Prop := fnExactPeriodLengthUptoRow.holds Try.pinned (OpenSpec.upto fnExactPeriodLengthSpec)

/-- 'laws.FnExactPreLength', WHERE WHAT IT READS IS OF BULK AT MOST 1048576: true; the input reads as it did. -/
def fnExactPreLengthUptoRow : OpenClaim := { program := "ytnbhbifcjcfmaaa", sum := "d828f8bdda7d7e0e93ebf3d3d4a1f461de7f24f9a854df920c563b00fa53c6cb", func := "loop.example/g03203/laws.FnExactPreLength", spec := "fnExactPreLength", apart := false, narrowed := true }
def FnExactPreLengthUptoSaid : Prop := fnExactPreLengthUptoRow.holds Try.pinned (OpenSpec.upto fnExactPreLengthSpec)

/-- 'laws.FnExactIsFinite', WHERE WHAT IT READS IS OF BULK AT MOST 1048576: true; the input reads as it did. -/
def fnExactIsFiniteUptoRow : OpenClaim := { program := "ytnbhbifcjcfmaaa", sum := "d828f8bdda7d7e0e93ebf3d3d4a1f461de7f24f9a854df920c563b00fa53c6cb", func := "loop.example/g03203/laws.FnExactIsFinite", spec := "fnExactIsFinite", apart := false, narrowed := true }
def FnExactIsFiniteUptoSaid : Prop := fnExactIsFiniteUptoRow.holds Try.pinned (OpenSpec.upto fnExactIsFiniteSpec)

/-- 'laws.FnExactFormatExpansion', WHERE WHAT IT READS IS OF BULK AT MOST 1048576: true; the input reads as it did. -/
def fnExactFormatExpansionUptoRow : OpenClaim := { program := "ytnbhbifcjcfmaaa", sum := "d828f8bdda7d7e0e93ebf3d3d4a1f461de7f24f9a854df920c563b00fa53c6cb", func := "loop.example/g03203/laws.FnExactFormatExpansion", spec := "fnExactFormatExpansion", unfollowed := true, recurses := true, apart := false, narrowed := true }
def FnExactFormatExpansionUptoSaid : Prop := fnExactFormatExpansionUptoRow.holds Try.pinned (OpenSpec.upto fnExactFormatExpansionSpec)

/-- 'laws.FnExactHasHalves', WHERE WHAT IT READS IS OF BULK AT MOST 1048576: true; the input reads as it did. -/
def fnExactHasHalvesUptoRow : OpenClaim := { program := "ytnbhbifcjcfmaaa", sum := "d828f8bdda7d7e0e93ebf3d3d4a1f461de7f24f9a854df920c563b00fa53c6cb", func := "loop.example/g03203/laws.FnExactHasHalves", spec := "fnExactHasHalves", apart := false, narrowed := true }
def FnExactHasHalvesUptoSaid : Prop := fnExactHasHalvesUptoRow.holds Try.pinned (OpenSpec.upto fnExactHasHalvesSpec)

/-- 'laws.FnExactExpansionOf', WHERE WHAT IT READS IS OF BULK AT MOST 1048576: true; the input reads as it did. -/
def fnExactExpansionOfUptoRow : OpenClaim := { program := "ytnbhbifcjcfmaaa", sum := "d828f8bdda7d7e0e93ebf3d3d4a1f461de7f24f9a854df920c563b00fa53c6cb", func := "loop.example/g03203/laws.FnExactExpansionOf", spec := "fnExactExpansionOf", apart := false, narrowed := true }
def FnExactExpansionOfUptoSaid : Prop := fnExactExpansionOfUptoRow.holds Try.pinned (OpenSpec.upto fnExactExpansionOfSpec)

/-- 'laws.FnExactFromExpansion', WHERE WHAT IT READS IS OF BULK AT MOST 1048576: true; the input reads as it did. -/
def fnExactFromExpansionUptoRow : OpenClaim := { program := "ytnbhbifcjcfmaaa", sum := "d828f8bdda7d7e0e93ebf3d3d4a1f461de7f24f9a854df920c563b00fa53c6cb", func := "loop.example/g03203/laws.FnExactFromExpansion", spec := "fnExactFromExpansion", unfollowed := true, recurses := true, apart := false, narrowed := true }
def FnExactFromExpansionUptoSaid : Prop := fnExactFromExpansionUptoRow.holds Try.pinned (OpenSpec.upto fnExactFromExpansionSpec)

end Rows
end Go.Proofs.Ytnbhbifcjcfmaaa
