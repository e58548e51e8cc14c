/-
  No cell of these rows narrows 'for every input' (looked for: loops, veiled, ifaces, maps, wideKeys, modest, calm, conditions, laid).
  DERIVED. THE GIVEN ROWS OF THIS SEAT. 11 by the template 'for every input the law returns true; each argument reads behind the call as it read before'; 0 by the template 'total and deterministic' (their statements: YtjdfpodmjpkfpaaTotals.lean).
  GIVEN WITH THE SEED: the statements are not yours to turn. If you find one false, say at which input.
  Laid BY PROGRAM, IN A SANDBOX (cutbox-rows.mjs): the forced cells as the released guide's own fill.sh prints them over the translation c4de122144dea62d… (all of the seat's roots in one cut). By AI agents, Wed Nov 11 2026. No macro, syntax, notation, axiom, sorry.
-/
import Derived.Test.YtjdfpodmjpkfpaaChecked
import GoSem.Claim
import GoSem.ClaimJoined
import GoSem.ClaimMapViews
import Derived.JoinedTies
import Derived.KernelRfl
namespace Go.Proofs.Ytjdfpodmjpkfpaa
/- THE CELL 'sum', in the pinned program and in every row, IS THE sha256 OF THE DUMP (.gsa) THAT YtjdfpodmjpkfpaaProg.lean LOADS. Nothing in Lean hashes anything: it is a label: what it is worth is what the hold of that sum in a sandbox is worth. -/
noncomputable def Try.pinned : Pinned := { name := "ytjdfpodmjpkfpaa", sum := "c4de122144dea62d778659a700c1a9ba0d8e485e062ecfc2578b67bbf2eaf1a0", checked := Try.checked }
namespace Rows
def none {H : Type} : Left H := { results := [], args := [] }

/-- 'laws.FnExactValuationOf': WHATEVER THE INPUT: true; the input reads as it did. -/
def fnExactValuationOfSpec : ChangeSpec := { name := "fnExactValuationOf", fn := fun _ => fun
  | [d1, d2] => { results := [.lit (.bool true)], args := [d1, d2] }
  | _ => none }
def fnExactValuationOfRow : OpenClaim := { program := "ytjdfpodmjpkfpaa", sum := "c4de122144dea62d778659a700c1a9ba0d8e485e062ecfc2578b67bbf2eaf1a0", func := "loop.example/g03203/laws.FnExactValuationOf", spec := "fnExactValuationOf", apart := false }
def FnExactValuationOfSaid : Prop := fnExactValuationOfRow.holds Try.pinned (OpenSpec.ofChange fnExactValuationOfSpec)

/-- ITS FALSE NEIGHBOUR: 'it returns false'. Refute it at one input. -/
def fnExactValuationOfWrong : ChangeSpec := { name := "fnExactValuationOf", fn := fun _ => fun
  | [d1, d2] => { results := [.lit (.bool false)], args := [d1, d2] }
  | _ => none }
def FnExactValuationOfWrongFalsely : Prop := fnExactValuationOfRow.holds Try.pinned (OpenSpec.ofChange fnExactValuationOfWrong)

/-- 'laws.FnExactPadicOk': WHATEVER THE INPUT: true; the input reads as it did. -/
def fnExactPadicOkSpec : ChangeSpec := { name := "fnExactPadicOk", fn := fun _ => fun
  | [d1, d2] => { results := [.lit (.bool true)], args := [d1, d2] }
  | _ => none }
def fnExactPadicOkRow : OpenClaim := { program := "ytjdfpodmjpkfpaa", sum := "c4de122144dea62d778659a700c1a9ba0d8e485e062ecfc2578b67bbf2eaf1a0", func := "loop.example/g03203/laws.FnExactPadicOk", spec := "fnExactPadicOk", unfollowed := true, recurses := true, apart := false }
def FnExactPadicOkSaid : Prop := fnExactPadicOkRow.holds Try.pinned (OpenSpec.ofChange fnExactPadicOkSpec)

/-- ITS FALSE NEIGHBOUR: 'it returns false'. Refute it at one input. -/
def fnExactPadicOkWrong : ChangeSpec := { name := "fnExactPadicOk", fn := fun _ => fun
  | [d1, d2] => { results := [.lit (.bool false)], args := [d1, d2] }
  | _ => none }
def FnExactPadicOkWrongFalsely : Prop := fnExactPadicOkRow.holds Try.pinned (OpenSpec.ofChange fnExactPadicOkWrong)

/-- 'laws.FnPadic': WHATEVER THE INPUT: true; the input reads as it did. -/
def fnPadicSpec : ChangeSpec := { name := "fnPadic", fn := fun _ => fun
  | [d] => { results := [.lit (.bool true)], args := [d] }
  | _ => none }
def fnPadicRow : OpenClaim := { program := "ytjdfpodmjpkfpaa", sum := "c4de122144dea62d778659a700c1a9ba0d8e485e062ecfc2578b67bbf2eaf1a0", func := "loop.example/g03203/laws.FnPadic", spec := "fnPadic", unfollowed := true, recurses := true, apart := false }
def FnPadicSaid : Prop := fnPadicRow.holds Try.pinned (OpenSpec.ofChange fnPadicSpec)

/-- ITS FALSE NEIGHBOUR: 'it returns false'. Refute it at one input. -/
def fnPadicWrong : ChangeSpec := { name := "fnPadic", fn := fun _ => fun
  | [d] => { results := [.lit (.bool false)], args := [d] }
  | _ => none }
def FnPadicWrongFalsely : Prop := fnPadicRow.holds Try.pinned (OpenSpec.ofChange fnPadicWrong)

/-- 'laws.FnExactPadicValue': WHATEVER THE INPUT: true; the input reads as it did. -/
def fnExactPadicValueSpec : ChangeSpec := { name := "fnExactPadicValue", fn := fun _ => fun
  | [d1, d2] => { results := [.lit (.bool true)], args := [d1, d2] }
  | _ => none }
def fnExactPadicValueRow : OpenClaim := { program := "ytjdfpodmjpkfpaa", sum := "c4de122144dea62d778659a700c1a9ba0d8e485e062ecfc2578b67bbf2eaf1a0", func := "loop.example/g03203/laws.FnExactPadicValue", spec := "fnExactPadicValue", unfollowed := true, recurses := true, apart := false }
def FnExactPadicValueSaid : Prop := fnExactPadicValueRow.holds Try.pinned (OpenSpec.ofChange fnExactPadicValueSpec)

/-- ITS FALSE NEIGHBOUR: 'it returns false'. Refute it at one input. -/
def fnExactPadicValueWrong : ChangeSpec := { name := "fnExactPadicValue", fn := fun _ => fun
  | [d1, d2] => { results := [.lit (.bool false)], args := [d1, d2] }
  | _ => none }
def FnExactPadicValueWrongFalsely : Prop := fnExactPadicValueRow.holds Try.pinned (OpenSpec.ofChange fnExactPadicValueWrong)

/-- 'laws.FnExactPadicDigits': WHATEVER THE INPUT: true; the input reads as it did. -/
def fnExactPadicDigitsSpec : ChangeSpec := { name := "fnExactPadicDigits", fn := fun _ => fun
  | [d1, d2, d3, d4] => { results := [.lit (.bool true)], args := [d1, d2, d3, d4] }
  | _ => none }
def fnExactPadicDigitsRow : OpenClaim := { program := "ytjdfpodmjpkfpaa", sum := "c4de122144dea62d778659a700c1a9ba0d8e485e062ecfc2578b67bbf2eaf1a0", func := "loop.example/g03203/laws.FnExactPadicDigits", spec := "fnExactPadicDigits", apart := false }
def FnExactPadicDigitsSaid : Prop := fnExactPadicDigitsRow.holds Try.pinned (OpenSpec.ofChange fnExactPadicDigitsSpec)

/-- ITS FALSE NEIGHBOUR: 'it returns false'. Refute it at one input. -/
def fnExactPadicDigitsWrong : ChangeSpec := { name := "fnExactPadicDigits", fn := fun _ => fun
  | [d1, d2, d3, d4] => { results := [.lit (.bool false)], args := [d1, d2, d3, d4] }
  | _ => none }
def FnExactPadicDigitsWrongFalsely : Prop := fnExactPadicDigitsRow.holds Try.pinned (OpenSpec.ofChange fnExactPadicDigitsWrong)

/-- 'laws.FnExactRationalOf': WHATEVER THE INPUT: true; the input reads as it did. -/
def fnExactRationalOfSpec : ChangeSpec := { name := "fnExactRationalOf", fn := fun _ => fun
  | [d1, d2, d3] => { results := [.lit (.bool true)], args := [d1, d2, d3] }
  | _ => none }
def fnExactRationalOfRow : OpenClaim := { program := "ytjdfpodmjpkfpaa", sum := "c4de122144dea62d778659a700c1a9ba0d8e485e062ecfc2578b67bbf2eaf1a0", func := "loop.example/g03203/laws.FnExactRationalOf", spec := "fnExactRationalOf", unfollowed := true, recurses := true, apart := false }
def FnExactRationalOfSaid : Prop := fnExactRationalOfRow.holds Try.pinned (OpenSpec.ofChange fnExactRationalOfSpec)

/-- ITS FALSE NEIGHBOUR: 'it returns false'. Refute it at one input. -/
def fnExactRationalOfWrong : ChangeSpec := { name := "fnExactRationalOf", fn := fun _ => fun
  | [d1, d2, d3] => { results := [.lit (.bool false)], args := [d1, d2, d3] }
  | _ => none }
def FnExactRationalOfWrongFalsely : Prop := fnExactRationalOfRow.holds Try.pinned (OpenSpec.ofChange fnExactRationalOfWrong)

/-- 'laws.FnExactPadicAdd': WHATEVER THE INPUT: true; the input reads as it did. -/
def fnExactPadicAddSpec : ChangeSpec := { name := "fnExactPadicAdd", fn := fun _ => fun
  | [d1, d2, d3] => { results := [.lit (.bool true)], args := [d1, d2, d3] }
  | _ => none }
def fnExactPadicAddRow : OpenClaim := { program := "ytjdfpodmjpkfpaa", sum := "c4de122144dea62d778659a700c1a9ba0d8e485e062ecfc2578b67bbf2eaf1a0", func := "loop.example/g03203/laws.FnExactPadicAdd", spec := "fnExactPadicAdd", unfollowed := true, recurses := true, apart := false }
def FnExactPadicAddSaid : Prop := fnExactPadicAddRow.holds Try.pinned (OpenSpec.ofChange fnExactPadicAddSpec)

/-- ITS FALSE NEIGHBOUR: 'it returns false'. Refute it at one input. -/
def fnExactPadicAddWrong : ChangeSpec := { name := "fnExactPadicAdd", fn := fun _ => fun
  | [d1, d2, d3] => { results := [.lit (.bool false)], args := [d1, d2, d3] }
  | _ => none }
def FnExactPadicAddWrongFalsely : Prop := fnExactPadicAddRow.holds Try.pinned (OpenSpec.ofChange fnExactPadicAddWrong)

/-- 'laws.FnExactPadicNegate': WHATEVER THE INPUT: true; the input reads as it did. -/
def fnExactPadicNegateSpec : ChangeSpec := { name := "fnExactPadicNegate", fn := fun _ => fun
  | [d1, d2] => { results := [.lit (.bool true)], args := [d1, d2] }
  | _ => none }
def fnExactPadicNegateRow : OpenClaim := { program := "ytjdfpodmjpkfpaa", sum := "c4de122144dea62d778659a700c1a9ba0d8e485e062ecfc2578b67bbf2eaf1a0", func := "loop.example/g03203/laws.FnExactPadicNegate", spec := "fnExactPadicNegate", unfollowed := true, recurses := true, apart := false }
def FnExactPadicNegateSaid : Prop := fnExactPadicNegateRow.holds Try.pinned (OpenSpec.ofChange fnExactPadicNegateSpec)

/-- ITS FALSE NEIGHBOUR: 'it returns false'. Refute it at one input. -/
def fnExactPadicNegateWrong : ChangeSpec := { name := "fnExactPadicNegate", fn := fun _ => fun
  | [d1, d2] => { results := [.lit (.bool false)], args := [d1, d2] }
  | _ => none }
def FnExactPadicNegateWrongFalsely : Prop := fnExactPadicNegateRow.holds Try.pinned (OpenSpec.ofChange fnExactPadicNegateWrong)

/-- 'laws.FnExactPadicTimes': WHATEVER THE INPUT: true; the input reads as it did. -/
def fnExactPadicTimesSpec : ChangeSpec := { name := "fnExactPadicTimes", fn := fun _ => fun
  | [d1, d2, d3] => { results := [.lit (.bool true)], args := [d1, d2, d3] }
  | _ => none }
def fnExactPadicTimesRow : OpenClaim := { program := "ytjdfpodmjpkfpaa", sum := "c4de122144dea62d778659a700c1a9ba0d8e485e062ecfc2578b67bbf2eaf1a0", func := "loop.example/g03203/laws.FnExactPadicTimes", spec := "fnExactPadicTimes", unfollowed := true, recurses := true, apart := false }
def FnExactPadicTimesSaid : Prop := fnExactPadicTimesRow.holds Try.pinned (OpenSpec.ofChange fnExactPadicTimesSpec)

/-- ITS FALSE NEIGHBOUR: 'it returns false'. Refute it at one input. -/
def fnExactPadicTimesWrong : ChangeSpec := { name := "fnExactPadicTimes", fn := fun _ => fun
  | [d1, d2, d3] => { results := [.lit (.bool false)], args := [d1, d2, d3] }
  | _ => none }
def FnExactPadicTimesWrongFalsely : Prop := fnExactPadicTimesRow.holds Try.pinned (OpenSpec.ofChange fnExactPadicTimesWrong)

/-- 'laws.FnExactPadicRoot': WHATEVER THE INPUT: true; the input reads as it did. -/
def fnExactPadicRootSpec : ChangeSpec := { name := "fnExactPadicRoot", fn := fun _ => fun
  | [d1, d2] => { results := [.lit (.bool true)], args := [d1, d2] }
  | _ => none }
def fnExactPadicRootRow : OpenClaim := { program := "ytjdfpodmjpkfpaa", sum := "c4de122144dea62d778659a700c1a9ba0d8e485e062ecfc2578b67bbf2eaf1a0", func := "loop.example/g03203/laws.FnExactPadicRoot", spec := "fnExactPadicRoot", unfollowed := true, recurses := true, apart := false }
def FnExactPadicRootSaid : Prop := fnExactPadicRootRow.holds Try.pinned (OpenSpec.ofChange fnExactPadicRootSpec)

/-- ITS FALSE NEIGHBOUR: 'it returns false'. Refute it at one input. -/
def fnExactPadicRootWrong : ChangeSpec := { name := "fnExactPadicRoot", fn := fun _ => fun
  | [d1, d2] => { results := [.lit (.bool false)], args := [d1, d2] }
  | _ => none }
def FnExactPadicRootWrongFalsely : Prop := fnExactPadicRootRow.holds Try.pinned (OpenSpec.ofChange fnExactPadicRootWrong)

/-- 'laws.FnExactPadicInverse': WHATEVER THE INPUT: true; the input reads as it did. -/
def fnExactPadicInverseSpec : ChangeSpec := { name := "fnExactPadicInverse", fn := fun _ => fun
  | [d1, d2] => { results := [.lit (.bool true)], args := [d1, d2] }
  | _ => none }
def fnExactPadicInverseRow : OpenClaim := { program := "ytjdfpodmjpkfpaa", sum := "c4de122144dea62d778659a700c1a9ba0d8e485e062ecfc2578b67bbf2eaf1a0", func := "loop.example/g03203/laws.FnExactPadicInverse", spec := "fnExactPadicInverse", unfollowed := true, recurses := true, apart := false }
def FnExactPadicInverseSaid : Prop := fnExactPadicInverseRow.holds Try.pinned (OpenSpec.ofChange fnExactPadicInverseSpec)

/-- ITS FALSE NEIGHBOUR: 'it returns false'. Refute it at one input. -/
def fnExactPadicInverseWrong : ChangeSpec := { name := "fnExactPadicInverse", fn := fun _ => fun
  | [d1, d2] => { results := [.lit (.bool false)], args := [d1, d2] }
  | _ => none }
def FnExactPadicInverseWrongFalsely : Prop := fnExactPadicInverseRow.holds Try.pinned (OpenSpec.ofChange fnExactPadicInverseWrong)

/- THE SECOND FORM. 'bulk': how many values and letters a reading holds, each counted each time it is reached (what is shared counts as often as it is met; a slice's spare places count too). A statement '..UptoSaid' is the law's where the arguments, and the package variables that the reading takes, are together of bulk at most 1048576: NARROWER than '..Said'. Prove '..Said' where nothing that the law and all that it calls make is longer than what came in: it says more and counts as full. Else prove '..UptoSaid'. A law counts once. -/
mutual
def uptoBulk {H : Type} : DataW H → Nat
  | .lit (.string bytes) => bytes.length + 1
  | .lit _ => 1
  | .nil => 1
  | .ptr d => uptoBulk d + 1
  | .slice elems spare => uptoBulkAll elems + uptoBulkAll spare + 1
  | .agg parts => uptoBulkAll parts + 1
  | .iface _ d => uptoBulk d + 1
  | .map entries => uptoBulkEntries entries + 1
  | .held _ => 1
def uptoBulkAll {H : Type} : List (DataW H) → Nat
  | [] => 0
  | d :: r => uptoBulk d + uptoBulkAll r
def uptoBulkEntries {H : Type} : List (Lit × DataW H) → Nat
  | [] => 0
  | x :: r => uptoBulkEntry x + uptoBulkEntries r
def uptoBulkEntry {H : Type} : Lit × DataW H → Nat
  | (.string bytes, d) => bytes.length + uptoBulk d + 1
  | (_, d) => uptoBulk d + 1
 end
def uptoSmall : (H : Type) → List (DataW H) → Bool := fun _ ds => decide (uptoBulkAll ds ≤ 1048576)
def OpenSpec.upto (s : _root_.Go.ChangeSpec) : _root_.Go.OpenSpec := { _root_.Go.OpenSpec.ofChange s with cond := some uptoSmall }

/-- 'laws.FnExactValuationOf', WHERE WHAT IT READS IS OF BULK AT MOST 1048576: true; the input reads as it did. -/
def fnExactValuationOfUptoRow : OpenClaim := { program := "ytjdfpodmjpkfpaa", sum := "c4de122144dea62d778659a700c1a9ba0d8e485e062ecfc2578b67bbf2eaf1a0", func := "loop.example/g03203/laws.FnExactValuationOf", spec := "fnExactValuationOf", apart := false, narrowed := true }
def FnExactValuationOfUptoSaid : Prop := fnExactValuationOfUptoRow.holds Try.pinned (OpenSpec.upto fnExactValuationOfSpec)

/-- 'laws.FnExactPadicOk', WHERE WHAT IT READS IS OF BULK AT MOST 1048576: true; the input reads as it did. -/
def fnExactPadicOkUptoRow : OpenClaim := { program := "ytjdfpodmjpkfpaa", sum := "c4de122144dea62d778659a700c1a9ba0d8e485e062ecfc2578b67bbf2eaf1a0", func := "loop.example/g03203/laws.FnExactPadicOk", spec := "fnExactPadicOk", unfollowed := true, recurses := true, apart := false, narrowed := true }
def FnExactPadicOkUptoSaid : Prop := fnExactPadicOkUptoRow.holds Try.pinned (OpenSpec.upto fnExactPadicOkSpec)

/-- 'laws.FnPadic', WHERE WHAT IT READS IS OF BULK AT MOST 1048576: true; the input reads as it did. -/
def fnPadicUptoRow : OpenClaim := { program := "ytjdfpodmjpkfpaa", sum := "c4de122144dea62d778659a700c1a9ba0d8e485e062ecfc2578b67bbf2eaf1a0", func := "loop.example/g03203/laws.FnPadic", spec := "fnPadic", unfollowed := true, recurses := true, apart := false, narrowed := true }
def FnPadicUptoSaid : Prop := fnPadicUptoRow.holds Try.pinned (OpenSpec.upto fnPadicSpec)

/-- 'laws.FnExactPadicValue', WHERE WHAT IT READS IS OF BULK AT MOST 1048576: true; the input reads as it did. -/
def fnExactPadicValueUptoRow : OpenClaim := { program := "ytjdfpodmjpkfpaa", sum := "c4de122144dea62d778659a700c1a9ba0d8e485e062ecfc2578b67bbf2eaf1a0", func := "loop.example/g03203/laws.FnExactPadicValue", spec := "fnExactPadicValue", unfollowed := true, recurses := true, apart := false, narrowed := true }
def FnExactPadicValueUptoSaid : Prop := fnExactPadicValueUptoRow.holds Try.pinned (OpenSpec.upto fnExactPadicValueSpec)

/-- 'laws.FnExactPadicDigits', WHERE WHAT IT READS IS OF BULK AT MOST 1048576: true; the input reads as it did. -/
def fnExactPadicDigitsUptoRow : OpenClaim := { program := "ytjdfpodmjpkfpaa", sum := "c4de122144dea62d778659a700c1a9ba0d8e485e062ecfc2578b67bbf2eaf1a0", func := "loop.example/g03203/laws.FnExactPadicDigits", spec := "fnExactPadicDigits", apart := false, narrowed := true }
def FnExactPadicDigitsUptoSaid : Prop := fnExactPadicDigitsUptoRow.holds Try.pinned (OpenSpec.upto fnExactPadicDigitsSpec)

/-- 'laws.FnExactRationalOf', WHERE WHAT IT READS IS OF BULK AT MOST 1048576: true; the input reads as it did. -/
def fnExactRationalOfUptoRow : OpenClaim := { program := "ytjdfpodmjpkfpaa", sum := "c4de122144dea62d778659a700c1a9ba0d8e485e062ecfc2578b67bbf2eaf1a0", func := "loop.example/g03203/laws.FnExactRationalOf", spec := "fnExactRationalOf", unfollowed := true, recurses := true, apart := false, narrowed := true }
def FnExactRationalOfUptoSaid : Prop := fnExactRationalOfUptoRow.holds Try.pinned (OpenSpec.upto fnExactRationalOfSpec)

/-- 'laws.FnExactPadicAdd', WHERE WHAT IT READS IS OF BULK AT MOST 1048576: true; the input reads as it did. -/
def fnExactPadicAddUptoRow : OpenClaim := { program := "ytjdfpodmjpkfpaa", sum := "c4de122144dea62d778659a700c1a9ba0d8e485e062ecfc2578b67bbf2eaf1a0", func := "loop.example/g03203/laws.FnExactPadicAdd", spec := "fnExactPadicAdd", unfollowed := true, recurses := true, apart := false, narrowed := true }
def FnExactPadicAddUptoSaid : Prop := fnExactPadicAddUptoRow.holds Try.pinned (OpenSpec.upto fnExactPadicAddSpec)

/-- 'laws.FnExactPadicNegate', WHERE WHAT IT READS IS OF BULK AT MOST 1048576: true; the input reads as it did. -/
def fnExactPadicNegateUptoRow : OpenClaim := { program := "ytjdfpodmjpkfpaa", sum := "c4de122144dea62d778659a700c1a9ba0d8e485e062ecfc2578b67bbf2eaf1a0", func := "loop.example/g03203/laws.FnExactPadicNegate", spec := "fnExactPadicNegate", unfollowed := true, recurses := true, apart := false, narrowed := true }
def FnExactPadicNegateUptoSaid : Prop := fnExactPadicNegateUptoRow.holds Try.pinned (OpenSpec.upto fnExactPadicNegateSpec)

/-- 'laws.FnExactPadicTimes', WHERE WHAT IT READS IS OF BULK AT MOST 1048576: true; the input reads as it did. -/
def fnExactPadicTimesUptoRow : OpenClaim := { program := "ytjdfpodmjpkfpaa", sum := "c4de122144dea62d778659a700c1a9ba0d8e485e062ecfc2578b67bbf2eaf1a0", func := "loop.example/g03203/laws.FnExactPadicTimes", spec := "fnExactPadicTimes", unfollowed := true, recurses := true, apart := false, narrowed := true }
def FnExactPadicTimesUptoSaid : Prop := fnExactPadicTimesUptoRow.holds Try.pinned (OpenSpec.upto fnExactPadicTimesSpec)

/-- 'laws.FnExactPadicRoot', WHERE WHAT IT READS IS OF BULK AT MOST 1048576: true; the input reads as it did. -/
def fnExactPadicRootUptoRow : OpenClaim := { program := "ytjdfpodmjpkfpaa", sum := "c4de122144dea62d778659a700c1a9ba0d8e485e062ecfc2578b67bbf2eaf1a0", func := "loop.example/g03203/laws.FnExactPadicRoot", spec := "fnExactPadicRoot", unfollowed := true, recurses := true, apart := false, narrowed := true }
def FnExactPadicRootUptoSaid : Prop := fnExactPadicRootUptoRow.holds Try.pinned (OpenSpec.upto fnExactPadicRootSpec)

/-- 'laws.FnExactPadicInverse', WHERE WHAT IT READS IS OF BULK AT MOST 1048576: true; the input reads as it did. -/
def fnExactPadicInverseUptoRow : OpenClaim := { program := "ytjdfpodmjpkfpaa", sum := "c4de122144dea62d778659a700c1a9ba0d8e485e062ecfc2578b67bbf2eaf1a0", func := "loop.example/g03203/laws.FnExactPadicInverse", spec := "fnExactPadicInverse", unfollowed := true, recurses := true, apart := false, narrowed := true }
def FnExactPadicInverseUptoSaid : Prop := fnExactPadicInverseUptoRow.holds Try.pinned (OpenSpec.upto fnExactPadicInverseSpec)

end Rows
end Go.Proofs.Ytjdfpodmjpkfpaa
