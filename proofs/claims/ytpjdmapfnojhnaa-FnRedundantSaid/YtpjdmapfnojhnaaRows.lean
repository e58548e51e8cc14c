/-
  No cell of these rows narrows 'for every input' (looked for: loops, veiled, ifaces, maps, wideKeys, modest, calm, conditions, laid).
  DERIVED. THE GIVEN ROWS OF THIS SEAT. 9 by the template 'for every input the law returns true; each argument reads behind the call as it read before'; 0 by the template 'total and deterministic' (their statements: YtpjdmapfnojhnaaTotals.lean).
  GIVEN WITH THE SEED: the statements are not yours to turn. If you find one false, say at which input.
  Laid BY PROGRAM, IN A SANDBOX (cutbox-rows.mjs): the forced cells as the released guide's own fill.sh prints them over the translation 92da7ef1cbbf1b45… (all of the seat's roots in one cut). By AI agents, Wed Nov 11 2026. No macro, syntax, notation, axiom, sorry.
-/
import Derived.Test.YtpjdmapfnojhnaaChecked
import GoSem.Claim
import GoSem.ClaimJoined
import GoSem.ClaimMapViews
import Derived.JoinedTies
import Derived.KernelRfl
namespace Go.Proofs.Ytpjdmapfnojhnaa
/- THE CELL 'sum', in the pinned program and in every row, IS THE sha256 OF THE DUMP (.gsa) THAT YtpjdmapfnojhnaaProg.lean LOADS. Nothing in Lean hashes anything: it is a label: what it is worth is what the hold of that sum in a sandbox is worth. -/
noncomputable def Try.pinned : Pinned := { name := "ytpjdmapfnojhnaa", sum := "92da7ef1cbbf1b45b0c10c1495d5be17f6d8d98f5601615e00dc7976224fd50b", checked := Try.checked }
namespace Rows
def none {H : Type} : Left H := { results := [], args := [] }

/-- 'laws.FnExactTimesStep': WHATEVER THE INPUT: true; the input reads as it did. -/
def fnExactTimesStepSpec : ChangeSpec := { name := "fnExactTimesStep", fn := fun _ => fun
  | [d1, d2, d3, d4] => { results := [.lit (.bool true)], args := [d1, d2, d3, d4] }
  | _ => none }
def fnExactTimesStepRow : OpenClaim := { program := "ytpjdmapfnojhnaa", sum := "92da7ef1cbbf1b45b0c10c1495d5be17f6d8d98f5601615e00dc7976224fd50b", func := "loop.example/g03203/laws.FnExactTimesStep", spec := "fnExactTimesStep", apart := false }
def FnExactTimesStepSaid : Prop := fnExactTimesStepRow.holds Try.pinned (OpenSpec.ofChange fnExactTimesStepSpec)

/-- ITS FALSE NEIGHBOUR: 'it returns false'. Refute it at one input. -/
def fnExactTimesStepWrong : ChangeSpec := { name := "fnExactTimesStep", fn := fun _ => fun
  | [d1, d2, d3, d4] => { results := [.lit (.bool false)], args := [d1, d2, d3, d4] }
  | _ => none }
def FnExactTimesStepWrongFalsely : Prop := fnExactTimesStepRow.holds Try.pinned (OpenSpec.ofChange fnExactTimesStepWrong)

/-- 'laws.FnExactRedundantOk': WHATEVER THE INPUT: true; the input reads as it did. -/
def fnExactRedundantOkSpec : ChangeSpec := { name := "fnExactRedundantOk", fn := fun _ => fun
  | [d1, d2] => { results := [.lit (.bool true)], args := [d1, d2] }
  | _ => none }
def fnExactRedundantOkRow : OpenClaim := { program := "ytpjdmapfnojhnaa", sum := "92da7ef1cbbf1b45b0c10c1495d5be17f6d8d98f5601615e00dc7976224fd50b", func := "loop.example/g03203/laws.FnExactRedundantOk", spec := "fnExactRedundantOk", unfollowed := true, recurses := true, apart := false }
def FnExactRedundantOkSaid : Prop := fnExactRedundantOkRow.holds Try.pinned (OpenSpec.ofChange fnExactRedundantOkSpec)

/-- ITS FALSE NEIGHBOUR: 'it returns false'. Refute it at one input. -/
def fnExactRedundantOkWrong : ChangeSpec := { name := "fnExactRedundantOk", fn := fun _ => fun
  | [d1, d2] => { results := [.lit (.bool false)], args := [d1, d2] }
  | _ => none }
def FnExactRedundantOkWrongFalsely : Prop := fnExactRedundantOkRow.holds Try.pinned (OpenSpec.ofChange fnExactRedundantOkWrong)

/-- 'laws.FnExactRedundantValue': WHATEVER THE INPUT: true; the input reads as it did. -/
def fnExactRedundantValueSpec : ChangeSpec := { name := "fnExactRedundantValue", fn := fun _ => fun
  | [d1, d2] => { results := [.lit (.bool true)], args := [d1, d2] }
  | _ => none }
def fnExactRedundantValueRow : OpenClaim := { program := "ytpjdmapfnojhnaa", sum := "92da7ef1cbbf1b45b0c10c1495d5be17f6d8d98f5601615e00dc7976224fd50b", func := "loop.example/g03203/laws.FnExactRedundantValue", spec := "fnExactRedundantValue", unfollowed := true, recurses := true, apart := false }
def FnExactRedundantValueSaid : Prop := fnExactRedundantValueRow.holds Try.pinned (OpenSpec.ofChange fnExactRedundantValueSpec)

/-- ITS FALSE NEIGHBOUR: 'it returns false'. Refute it at one input. -/
def fnExactRedundantValueWrong : ChangeSpec := { name := "fnExactRedundantValue", fn := fun _ => fun
  | [d1, d2] => { results := [.lit (.bool false)], args := [d1, d2] }
  | _ => none }
def FnExactRedundantValueWrongFalsely : Prop := fnExactRedundantValueRow.holds Try.pinned (OpenSpec.ofChange fnExactRedundantValueWrong)

/-- 'laws.FnExactCarriesOf': WHATEVER THE INPUT: true; the input reads as it did. -/
def fnExactCarriesOfSpec : ChangeSpec := { name := "fnExactCarriesOf", fn := fun _ => fun
  | [d1, d2, d3] => { results := [.lit (.bool true)], args := [d1, d2, d3] }
  | _ => none }
def fnExactCarriesOfRow : OpenClaim := { program := "ytpjdmapfnojhnaa", sum := "92da7ef1cbbf1b45b0c10c1495d5be17f6d8d98f5601615e00dc7976224fd50b", func := "loop.example/g03203/laws.FnExactCarriesOf", spec := "fnExactCarriesOf", unfollowed := true, recurses := true, apart := false }
def FnExactCarriesOfSaid : Prop := fnExactCarriesOfRow.holds Try.pinned (OpenSpec.ofChange fnExactCarriesOfSpec)

/-- ITS FALSE NEIGHBOUR: 'it returns false'. Refute it at one input. -/
def fnExactCarriesOfWrong : ChangeSpec := { name := "fnExactCarriesOf", fn := fun _ => fun
  | [d1, d2, d3] => { results := [.lit (.bool false)], args := [d1, d2, d3] }
  | _ => none }
def FnExactCarriesOfWrongFalsely : Prop := fnExactCarriesOfRow.holds Try.pinned (OpenSpec.ofChange fnExactCarriesOfWrong)

/-- 'laws.FnExactRestsOf': WHATEVER THE INPUT: true; the input reads as it did. -/
def fnExactRestsOfSpec : ChangeSpec := { name := "fnExactRestsOf", fn := fun _ => fun
  | [d1, d2, d3] => { results := [.lit (.bool true)], args := [d1, d2, d3] }
  | _ => none }
def fnExactRestsOfRow : OpenClaim := { program := "ytpjdmapfnojhnaa", sum := "92da7ef1cbbf1b45b0c10c1495d5be17f6d8d98f5601615e00dc7976224fd50b", func := "loop.example/g03203/laws.FnExactRestsOf", spec := "fnExactRestsOf", unfollowed := true, recurses := true, apart := false }
def FnExactRestsOfSaid : Prop := fnExactRestsOfRow.holds Try.pinned (OpenSpec.ofChange fnExactRestsOfSpec)

/-- ITS FALSE NEIGHBOUR: 'it returns false'. Refute it at one input. -/
def fnExactRestsOfWrong : ChangeSpec := { name := "fnExactRestsOf", fn := fun _ => fun
  | [d1, d2, d3] => { results := [.lit (.bool false)], args := [d1, d2, d3] }
  | _ => none }
def FnExactRestsOfWrongFalsely : Prop := fnExactRestsOfRow.holds Try.pinned (OpenSpec.ofChange fnExactRestsOfWrong)

/-- 'laws.FnExactPlainDigits': WHATEVER THE INPUT: true; the input reads as it did. -/
def fnExactPlainDigitsSpec : ChangeSpec := { name := "fnExactPlainDigits", fn := fun _ => fun
  | [d1, d2] => { results := [.lit (.bool true)], args := [d1, d2] }
  | _ => none }
def fnExactPlainDigitsRow : OpenClaim := { program := "ytpjdmapfnojhnaa", sum := "92da7ef1cbbf1b45b0c10c1495d5be17f6d8d98f5601615e00dc7976224fd50b", func := "loop.example/g03203/laws.FnExactPlainDigits", spec := "fnExactPlainDigits", unfollowed := true, recurses := true, apart := false }
def FnExactPlainDigitsSaid : Prop := fnExactPlainDigitsRow.holds Try.pinned (OpenSpec.ofChange fnExactPlainDigitsSpec)

/-- ITS FALSE NEIGHBOUR: 'it returns false'. Refute it at one input. -/
def fnExactPlainDigitsWrong : ChangeSpec := { name := "fnExactPlainDigits", fn := fun _ => fun
  | [d1, d2] => { results := [.lit (.bool false)], args := [d1, d2] }
  | _ => none }
def FnExactPlainDigitsWrongFalsely : Prop := fnExactPlainDigitsRow.holds Try.pinned (OpenSpec.ofChange fnExactPlainDigitsWrong)

/-- 'laws.FnExactDivideSmall': WHATEVER THE INPUT: true; the input reads as it did. -/
def fnExactDivideSmallSpec : ChangeSpec := { name := "fnExactDivideSmall", fn := fun _ => fun
  | [d1, d2, d3] => { results := [.lit (.bool true)], args := [d1, d2, d3] }
  | _ => none }
def fnExactDivideSmallRow : OpenClaim := { program := "ytpjdmapfnojhnaa", sum := "92da7ef1cbbf1b45b0c10c1495d5be17f6d8d98f5601615e00dc7976224fd50b", func := "loop.example/g03203/laws.FnExactDivideSmall", spec := "fnExactDivideSmall", unfollowed := true, recurses := true, apart := false }
def FnExactDivideSmallSaid : Prop := fnExactDivideSmallRow.holds Try.pinned (OpenSpec.ofChange fnExactDivideSmallSpec)

/-- ITS FALSE NEIGHBOUR: 'it returns false'. Refute it at one input. -/
def fnExactDivideSmallWrong : ChangeSpec := { name := "fnExactDivideSmall", fn := fun _ => fun
  | [d1, d2, d3] => { results := [.lit (.bool false)], args := [d1, d2, d3] }
  | _ => none }
def FnExactDivideSmallWrongFalsely : Prop := fnExactDivideSmallRow.holds Try.pinned (OpenSpec.ofChange fnExactDivideSmallWrong)

/-- 'laws.FnExactRedundantAdd': WHATEVER THE INPUT: true; the input reads as it did. -/
def fnExactRedundantAddSpec : ChangeSpec := { name := "fnExactRedundantAdd", fn := fun _ => fun
  | [d1, d2, d3] => { results := [.lit (.bool true)], args := [d1, d2, d3] }
  | _ => none }
def fnExactRedundantAddRow : OpenClaim := { program := "ytpjdmapfnojhnaa", sum := "92da7ef1cbbf1b45b0c10c1495d5be17f6d8d98f5601615e00dc7976224fd50b", func := "loop.example/g03203/laws.FnExactRedundantAdd", spec := "fnExactRedundantAdd", unfollowed := true, recurses := true, apart := false }
def FnExactRedundantAddSaid : Prop := fnExactRedundantAddRow.holds Try.pinned (OpenSpec.ofChange fnExactRedundantAddSpec)

/-- ITS FALSE NEIGHBOUR: 'it returns false'. Refute it at one input. -/
def fnExactRedundantAddWrong : ChangeSpec := { name := "fnExactRedundantAdd", fn := fun _ => fun
  | [d1, d2, d3] => { results := [.lit (.bool false)], args := [d1, d2, d3] }
  | _ => none }
def FnExactRedundantAddWrongFalsely : Prop := fnExactRedundantAddRow.holds Try.pinned (OpenSpec.ofChange fnExactRedundantAddWrong)

/-- 'laws.FnRedundant': WHATEVER THE INPUT: true; the input reads as it did. -/
def fnRedundantSpec : ChangeSpec := { name := "fnRedundant", fn := fun _ => fun
  | [d] => { results := [.lit (.bool true)], args := [d] }
  | _ => none }
def fnRedundantRow : OpenClaim := { program := "ytpjdmapfnojhnaa", sum := "92da7ef1cbbf1b45b0c10c1495d5be17f6d8d98f5601615e00dc7976224fd50b", func := "loop.example/g03203/laws.FnRedundant", spec := "fnRedundant", unfollowed := true, recurses := true, apart := false }
def FnRedundantSaid : Prop := fnRedundantRow.holds Try.pinned (OpenSpec.ofChange fnRedundantSpec)

/-- ITS FALSE NEIGHBOUR: 'it returns false'. Refute it at one input. -/
def fnRedundantWrong : ChangeSpec := { name := "fnRedundant", fn := fun _ => fun
  | [d] => { results := [.lit (.bool false)], args := [d] }
  | _ => none }
def FnRedundantWrongFalsely : Prop := fnRedundantRow.holds Try.pinned (OpenSpec.ofChange fnRedundantWrong)

/- THE SECOND FORM. 'bulk': how many values and letters a reading holds, each counted each time it is reached (what is shared counts as often as it is met; a slice's spare places count too). A statement '..UptoSaid' is the law's where the arguments, and the package variables that the reading takes, are together of bulk at most 1048576: NARROWER than '..Said'. Prove '..Said' where nothing that the law and all that it calls make is longer than what came in: it says more and counts as full. Else prove '..UptoSaid'. A law counts once. -/
mutual
def uptoBulk {H : Type} : DataW H → Nat
  | .lit (.string bytes) => bytes.length + 1
  | .lit _ => 1
  | .nil => 1
  | .ptr d => uptoBulk d + 1
  | .slice elems spare => uptoBulkAll elems + uptoBulkAll spare + 1
  | .agg parts => uptoBulkAll parts + 1
  | .iface _ d => uptoBulk d + 1
  | .map entries => uptoBulkEntries entries + 1
  | .held _ => 1
def uptoBulkAll {H : Type} : List (DataW H) → Nat
  | [] => 0
  | d :: r => uptoBulk d + uptoBulkAll r
def uptoBulkEntries {H : Type} : List (Lit × DataW H) → Nat
  | [] => 0
  | x :: r => uptoBulkEntry x + uptoBulkEntries r
def uptoBulkEntry {H : Type} : Lit × DataW H → Nat
  | (.string bytes, d) => bytes.length + uptoBulk d + 1
  | (_, d) => uptoBulk d + 1
 end
def uptoSmall : (H : Type) → List (DataW H) → Bool := fun _ ds => decide (uptoBulkAll ds ≤ 1048576)
def OpenSpec.upto (s : _root_.Go.ChangeSpec) : _root_.Go.OpenSpec := { _root_.Go.OpenSpec.ofChange s with cond := some uptoSmall }

/-- 'laws.FnExactTimesStep', WHERE WHAT IT READS IS OF BULK AT MOST 1048576: true; the input reads as it did. -/
def fnExactTimesStepUptoRow : OpenClaim := { program := "ytpjdmapfnojhnaa", sum := "92da7ef1cbbf1b45b0c10c1495d5be17f6d8d98f5601615e00dc7976224fd50b", func := "loop.example/g03203/laws.FnExactTimesStep", spec := "fnExactTimesStep", apart := false, narrowed := true }
def FnExactTimesStepUptoSaid : Prop := fnExactTimesStepUptoRow.holds Try.pinned (OpenSpec.upto fnExactTimesStepSpec)

/-- 'laws.FnExactRedundantOk', WHERE WHAT IT READS IS OF BULK AT MOST 1048576: true; the input reads as it did. -/
def fnExactRedundantOkUptoRow : OpenClaim := { program := "ytpjdmapfnojhnaa", sum := "92da7ef1cbbf1b45b0c10c1495d5be17f6d8d98f5601615e00dc7976224fd50b", func := "loop.example/g03203/laws.FnExactRedundantOk", spec := "fnExactRedundantOk", unfollowed := true, recurses := true, apart := false, narrowed := true }
def FnExactRedundantOkUptoSaid : Prop := fnExactRedundantOkUptoRow.holds Try.pinned (OpenSpec.upto fnExactRedundantOkSpec)

/-- 'laws.FnExactRedundantValue', WHERE WHAT IT READS IS OF BULK AT MOST 1048576: true; the input reads as it did. -/
def fnExactRedundantValueUptoRow : OpenClaim := { program := "ytpjdmapfnojhnaa", sum := "92da7ef1cbbf1b45b0c10c1495d5be17f6d8d98f5601615e00dc7976224fd50b", func := "loop.example/g03203/laws.FnExactRedundantValue", spec := "fnExactRedundantValue", unfollowed := true, recurses := true, apart := false, narrowed := true }
def FnExactRedundantValueUptoSaid : Prop := fnExactRedundantValueUptoRow.holds Try.pinned (OpenSpec.upto fnExactRedundantValueSpec)

/-- 'laws.FnExactCarriesOf', WHERE WHAT IT READS IS OF BULK AT MOST 1048576: true; the input reads as it did. -/
def fnExactCarriesOfUptoRow : OpenClaim := { program := "ytpjdmapfnojhnaa", sum := "92da7ef1cbbf1b45b0c10c1495d5be17f6d8d98f5601615e00dc7976224fd50b", func := "loop.example/g03203/laws.FnExactCarriesOf", spec := "fnExactCarriesOf", unfollowed := true, recurses := true, apart := false, narrowed := true }
def FnExactCarriesOfUptoSaid : Prop := fnExactCarriesOfUptoRow.holds Try.pinned (OpenSpec.upto fnExactCarriesOfSpec)

/-- 'laws.FnExactRestsOf', WHERE WHAT IT READS IS OF BULK AT MOST 1048576: true; the input reads as it did. -/
def fnExactRestsOfUptoRow : OpenClaim := { program := "ytpjdmapfnojhnaa", sum := "92da7ef1cbbf1b45b0c10c1495d5be17f6d8d98f5601615e00dc7976224fd50b", func := "loop.example/g03203/laws.FnExactRestsOf", spec := "fnExactRestsOf", unfollowed := true, recurses := true, apart := false, narrowed := true }
def FnExactRestsOfUptoSaid : Prop := fnExactRestsOfUptoRow.holds Try.pinned (OpenSpec.upto fnExactRestsOfSpec)

/-- 'laws.FnExactPlainDigits', WHERE WHAT IT READS IS OF BULK AT MOST 1048576: true; the input reads as it did. -/
def fnExactPlainDigitsUptoRow : OpenClaim := { program := "ytpjdmapfnojhnaa", sum := "92da7ef1cbbf1b45b0c10c1495d5be17f6d8d98f5601615e00dc7976224fd50b", func := "loop.example/g03203/laws.FnExactPlainDigits", spec := "fnExactPlainDigits", unfollowed := true, recurses := true, apart := false, narrowed := true }
def FnExactPlainDigitsUptoSaid : Prop := fnExactPlainDigitsUptoRow.holds Try.pinned (OpenSpec.upto fnExactPlainDigitsSpec)

/-- 'laws.FnExactDivideSmall', WHERE WHAT IT READS IS OF BULK AT MOST 1048576: true; the input reads as it did. -/
def fnExactDivideSmallUptoRow : OpenClaim := { program := "ytpjdmapfnojhnaa", sum := "92da7ef1cbbf1b45b0c10c1495d5be17f6d8d98f5601615e00dc7976224fd50b", func := "loop.example/g03203/laws.FnExactDivideSmall", spec := "fnExactDivideSmall", unfollowed := true, recurses := true, apart := false, narrowed := true }
def FnExactDivideSmallUptoSaid : Prop := fnExactDivideSmallUptoRow.holds Try.pinned (OpenSpec.upto fnExactDivideSmallSpec)

/-- 'laws.FnExactRedundantAdd', WHERE WHAT IT READS IS OF BULK AT MOST 1048576: true; the input reads as it did. -/
def fnExactRedundantAddUptoRow : OpenClaim := { program := "ytpjdmapfnojhnaa", sum := "92da7ef1cbbf1b45b0c10c1495d5be17f6d8d98f5601615e00dc7976224fd50b", func := "loop.example/g03203/laws.FnExactRedundantAdd", spec := "fnExactRedundantAdd", unfollowed := true, recurses := true, apart := false, narrowed := true }
def FnExactRedundantAddUptoSaid : Prop := fnExactRedundantAddUptoRow.holds Try.pinned (OpenSpec.upto fnExactRedundantAddSpec)

/-- 'laws.FnRedundant', WHERE WHAT IT READS IS OF BULK AT MOST 1048576: true; the input reads as it did. -/
def fnRedundantUptoRow : OpenClaim := { program := "ytpjdmapfnojhnaa", sum := "92da7ef1cbbf1b45b0c10c1495d5be17f6d8d98f5601615e00dc7976224fd50b", func := "loop.example/g03203/laws.FnRedundant", spec := "fnRedundant", unfollowed := true, recurses := true, apart := false, narrowed := true }
def FnRedundantUptoSaid : Prop := fnRedundantUptoRow.holds Try.pinned (OpenSpec.upto fnRedundantSpec)

end Rows
end Go.Proofs.Ytpjdmapfnojhnaa
