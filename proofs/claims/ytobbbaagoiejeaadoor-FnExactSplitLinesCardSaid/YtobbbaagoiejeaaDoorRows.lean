/-
  NARROWER THAN 'FOR EVERY INPUT', by the rows' own cells (each row's printed sentence says how): FnExactSequenceAt: laid · FnExactSumOf: laid · FnExactPartWord: laid · FnExactSequenceWord: laid · FnExactEqualPowerSums: laid · FnExactFirstPair: laid · FnExactSplitLines: laid.
  DERIVED. THE GIVEN ROWS OF THIS SEAT. 7 by the template 'for every input the law returns true; each argument reads behind the call as it read before'; 0 by the template 'total and deterministic' (their statements: YtobbbaagoiejeaaDoorTotals.lean).
  GIVEN WITH THE SEED: the statements are not yours to turn. If you find one false, say at which input.
  Laid BY PROGRAM, IN A SANDBOX (cutbox-rows.mjs): the forced cells as the released guide's own fill.sh prints them over the translation bccdd04c0b470612… (all of the seat's roots in one cut). By AI agents, Wed Nov 11 2026. No macro, syntax, notation, axiom, sorry.
-/
import Derived.Test.YtobbbaagoiejeaaDoorChecked
import GoSem.PinnedTables
import GoSem.Claim
import GoSem.ClaimJoined
import GoSem.ClaimMapViews
import Derived.JoinedTies
import Derived.KernelRfl
namespace Go.Proofs.YtobbbaagoiejeaaDoor
/- THE CELL 'sum', in the pinned program and in every row, IS THE sha256 OF THE DUMP (.gsa) THAT YtobbbaagoiejeaaDoorProg.lean LOADS. Nothing in Lean hashes anything: it is a label: what it is worth is what the hold of that sum in a sandbox is worth. -/
noncomputable def Tryd.pinned : Pinned := { name := "ytobbbaagoiejeaadoor", sum := "bccdd04c0b470612bce32599852be2fa1f726825c491cfd34eacc00a4145b8dc", checked := Tryd.checked }
namespace Rows
def none {H : Type} : Left H := { results := [], args := [] }

/- WHAT THE LISTED PACKAGE-LEVEL VARIABLES READ AS WHEN THE CALL BEGINS. Each datum BY PROGRAM (the guide's laid-datum.mjs) off the statement by which the dump's own 'gosem.cut.vars' lays the variable. In a bare row this is a premise. The card (YtobbbaagoiejeaaDoorCards.lean) ties it to the program's text. -/
def laid_math_bits_deBruijn32tab {H : Type} : DataW H := .agg [.lit (.int .u8 0), .lit (.int .u8 1), .lit (.int .u8 28), .lit (.int .u8 2), .lit (.int .u8 29), .lit (.int .u8 14), .lit (.int .u8 24), .lit (.int .u8 3), .lit (.int .u8 30), .lit (.int .u8 22), .lit (.int .u8 20), .lit (.int .u8 15), .lit (.int .u8 25), .lit (.int .u8 17), .lit (.int .u8 4), .lit (.int .u8 8), .lit (.int .u8 31), .lit (.int .u8 27), .lit (.int .u8 13), .lit (.int .u8 23), .lit (.int .u8 21), .lit (.int .u8 19), .lit (.int .u8 16), .lit (.int .u8 7), .lit (.int .u8 26), .lit (.int .u8 12), .lit (.int .u8 18), .lit (.int .u8 6), .lit (.int .u8 11), .lit (.int .u8 5), .lit (.int .u8 10), .lit (.int .u8 9)]
def laid_math_bits_deBruijn64tab {H : Type} : DataW H := .agg [.lit (.int .u8 0), .lit (.int .u8 1), .lit (.int .u8 56), .lit (.int .u8 2), .lit (.int .u8 57), .lit (.int .u8 49), .lit (.int .u8 28), .lit (.int .u8 3), .lit (.int .u8 61), .lit (.int .u8 58), .lit (.int .u8 42), .lit (.int .u8 50), .lit (.int .u8 38), .lit (.int .u8 29), .lit (.int .u8 17), .lit (.int .u8 4), .lit (.int .u8 62), .lit (.int .u8 47), .lit (.int .u8 59), .lit (.int .u8 36), .lit (.int .u8 45), .lit (.int .u8 43), .lit (.int .u8 51), .lit (.int .u8 22), .lit (.int .u8 53), .lit (.int .u8 39), .lit (.int .u8 33), .lit (.int .u8 30), .lit (.int .u8 24), .lit (.int .u8 18), .lit (.int .u8 12), .lit (.int .u8 5), .lit (.int .u8 63), .lit (.int .u8 55), .lit (.int .u8 48), .lit (.int .u8 27), .lit (.int .u8 60), .lit (.int .u8 41), .lit (.int .u8 37), .lit (.int .u8 16), .lit (.int .u8 46), .lit (.int .u8 35), .lit (.int .u8 44), .lit (.int .u8 21), .lit (.int .u8 52), .lit (.int .u8 32), .lit (.int .u8 23), .lit (.int .u8 11), .lit (.int .u8 54), .lit (.int .u8 26), .lit (.int .u8 40), .lit (.int .u8 15), .lit (.int .u8 34), .lit (.int .u8 20), .lit (.int .u8 31), .lit (.int .u8 10), .lit (.int .u8 25), .lit (.int .u8 14), .lit (.int .u8 19), .lit (.int .u8 9), .lit (.int .u8 13), .lit (.int .u8 8), .lit (.int .u8 7), .lit (.int .u8 6)]
def laid_unicode_utf8_acceptRanges {H : Type} : DataW H := .agg [.agg [.lit (.int .u8 128), .lit (.int .u8 191)], .agg [.lit (.int .u8 160), .lit (.int .u8 191)], .agg [.lit (.int .u8 128), .lit (.int .u8 159)], .agg [.lit (.int .u8 144), .lit (.int .u8 191)], .agg [.lit (.int .u8 128), .lit (.int .u8 143)], .agg [.lit (.int .u8 0), .lit (.int .u8 0)], .agg [.lit (.int .u8 0), .lit (.int .u8 0)], .agg [.lit (.int .u8 0), .lit (.int .u8 0)], .agg [.lit (.int .u8 0), .lit (.int .u8 0)], .agg [.lit (.int .u8 0), .lit (.int .u8 0)], .agg [.lit (.int .u8 0), .lit (.int .u8 0)], .agg [.lit (.int .u8 0), .lit (.int .u8 0)], .agg [.lit (.int .u8 0), .lit (.int .u8 0)], .agg [.lit (.int .u8 0), .lit (.int .u8 0)], .agg [.lit (.int .u8 0), .lit (.int .u8 0)], .agg [.lit (.int .u8 0), .lit (.int .u8 0)]]
/-- One of Go's own tables, pinned by name: the form's constant. -/
def laid_unicode_utf8_first : DataW Unit := Go.Pinned.utf8First

/-- 'laws.FnExactSequenceAt': WHATEVER THE INPUT: true; the input reads as it did. -/
def fnExactSequenceAtSpec : ChangeSpec := { name := "fnExactSequenceAt", fn := fun _ => fun
  | [d1, d2] => { results := [.lit (.bool true)], args := [d1, d2] }
  | _ => none }
def fnExactSequenceAtRow : OpenClaim := { program := "ytobbbaagoiejeaadoor", sum := "bccdd04c0b470612bce32599852be2fa1f726825c491cfd34eacc00a4145b8dc", func := "loop.example/g03203/laws.FnExactSequenceAt", spec := "fnExactSequenceAt", named := ["math/bits.deBruijn32tab", "math/bits.deBruijn64tab"], apart := false, laid := [("math/bits.deBruijn32tab", laid_math_bits_deBruijn32tab), ("math/bits.deBruijn64tab", laid_math_bits_deBruijn64tab)] }
def FnExactSequenceAtSaid : Prop := fnExactSequenceAtRow.holds Tryd.pinned (OpenSpec.ofChange fnExactSequenceAtSpec)

/-- ITS FALSE NEIGHBOUR: 'it returns false'. Refute it at one input. -/
def fnExactSequenceAtWrong : ChangeSpec := { name := "fnExactSequenceAt", fn := fun _ => fun
  | [d1, d2] => { results := [.lit (.bool false)], args := [d1, d2] }
  | _ => none }
def FnExactSequenceAtWrongFalsely : Prop := fnExactSequenceAtRow.holds Tryd.pinned (OpenSpec.ofChange fnExactSequenceAtWrong)

/-- 'laws.FnExactSumOf': WHATEVER THE INPUT: true; the input reads as it did. -/
def fnExactSumOfSpec : ChangeSpec := { name := "fnExactSumOf", fn := fun _ => fun
  | [d1, d2] => { results := [.lit (.bool true)], args := [d1, d2] }
  | _ => none }
def fnExactSumOfRow : OpenClaim := { program := "ytobbbaagoiejeaadoor", sum := "bccdd04c0b470612bce32599852be2fa1f726825c491cfd34eacc00a4145b8dc", func := "loop.example/g03203/laws.FnExactSumOf", spec := "fnExactSumOf", named := ["math/bits.deBruijn32tab", "math/bits.deBruijn64tab"], apart := false, laid := [("math/bits.deBruijn32tab", laid_math_bits_deBruijn32tab), ("math/bits.deBruijn64tab", laid_math_bits_deBruijn64tab)] }
def FnExactSumOfSaid : Prop := fnExactSumOfRow.holds Tryd.pinned (OpenSpec.ofChange fnExactSumOfSpec)

/-- ITS FALSE NEIGHBOUR: 'it returns false'. Refute it at one input. -/
def fnExactSumOfWrong : ChangeSpec := { name := "fnExactSumOf", fn := fun _ => fun
  | [d1, d2] => { results := [.lit (.bool false)], args := [d1, d2] }
  | _ => none }
def FnExactSumOfWrongFalsely : Prop := fnExactSumOfRow.holds Tryd.pinned (OpenSpec.ofChange fnExactSumOfWrong)

/-- 'laws.FnExactPartWord': WHATEVER THE INPUT: true; the input reads as it did. -/
def fnExactPartWordSpec : ChangeSpec := { name := "fnExactPartWord", fn := fun _ => fun
  | [d1, d2, d3, d4] => { results := [.lit (.bool true)], args := [d1, d2, d3, d4] }
  | _ => none }
def fnExactPartWordRow : OpenClaim := { program := "ytobbbaagoiejeaadoor", sum := "bccdd04c0b470612bce32599852be2fa1f726825c491cfd34eacc00a4145b8dc", func := "loop.example/g03203/laws.FnExactPartWord", spec := "fnExactPartWord", named := ["math/bits.deBruijn32tab", "math/bits.deBruijn64tab"], apart := false, laid := [("math/bits.deBruijn32tab", laid_math_bits_deBruijn32tab), ("math/bits.deBruijn64tab", laid_math_bits_deBruijn64tab)] }
def FnExactPartWordSaid : Prop := fnExactPartWordRow.holds Tryd.pinned (OpenSpec.ofChange fnExactPartWordSpec)

/-- ITS FALSE NEIGHBOUR: 'it returns false'. Refute it at one input. -/
def fnExactPartWordWrong : ChangeSpec := { name := "fnExactPartWord", fn := fun _ => fun
  | [d1, d2, d3, d4] => { results := [.lit (.bool false)], args := [d1, d2, d3, d4] }
  | _ => none }
def FnExactPartWordWrongFalsely : Prop := fnExactPartWordRow.holds Tryd.pinned (OpenSpec.ofChange fnExactPartWordWrong)

/-- 'laws.FnExactSequenceWord': WHATEVER THE INPUT: true; the input reads as it did. -/
def fnExactSequenceWordSpec : ChangeSpec := { name := "fnExactSequenceWord", fn := fun _ => fun
  | [d1, d2] => { results := [.lit (.bool true)], args := [d1, d2] }
  | _ => none }
def fnExactSequenceWordRow : OpenClaim := { program := "ytobbbaagoiejeaadoor", sum := "bccdd04c0b470612bce32599852be2fa1f726825c491cfd34eacc00a4145b8dc", func := "loop.example/g03203/laws.FnExactSequenceWord", spec := "fnExactSequenceWord", named := ["math/bits.deBruijn32tab", "math/bits.deBruijn64tab"], apart := false, laid := [("math/bits.deBruijn32tab", laid_math_bits_deBruijn32tab), ("math/bits.deBruijn64tab", laid_math_bits_deBruijn64tab)] }
def FnExactSequenceWordSaid : Prop := fnExactSequenceWordRow.holds Tryd.pinned (OpenSpec.ofChange fnExactSequenceWordSpec)

/-- ITS FALSE NEIGHBOUR: 'it returns false'. Refute it at one input. -/
def fnExactSequenceWordWrong : ChangeSpec := { name := "fnExactSequenceWord", fn := fun _ => fun
  | [d1, d2] => { results := [.lit (.bool false)], args := [d1, d2] }
  | _ => none }
def FnExactSequenceWordWrongFalsely : Prop := fnExactSequenceWordRow.holds Tryd.pinned (OpenSpec.ofChange fnExactSequenceWordWrong)

/-- 'laws.FnExactEqualPowerSums': WHATEVER THE INPUT: true; the input reads as it did. -/
def fnExactEqualPowerSumsSpec : ChangeSpec := { name := "fnExactEqualPowerSums", fn := fun _ => fun
  | [d1, d2] => { results := [.lit (.bool true)], args := [d1, d2] }
  | _ => none }
def fnExactEqualPowerSumsRow : OpenClaim := { program := "ytobbbaagoiejeaadoor", sum := "bccdd04c0b470612bce32599852be2fa1f726825c491cfd34eacc00a4145b8dc", func := "loop.example/g03203/laws.FnExactEqualPowerSums", spec := "fnExactEqualPowerSums", named := ["math/bits.deBruijn32tab", "math/bits.deBruijn64tab"], apart := false, laid := [("math/bits.deBruijn32tab", laid_math_bits_deBruijn32tab), ("math/bits.deBruijn64tab", laid_math_bits_deBruijn64tab)] }
def FnExactEqualPowerSumsSaid : Prop := fnExactEqualPowerSumsRow.holds Tryd.pinned (OpenSpec.ofChange fnExactEqualPowerSumsSpec)

/-- ITS FALSE NEIGHBOUR: 'it returns false'. Refute it at one input. -/
def fnExactEqualPowerSumsWrong : ChangeSpec := { name := "fnExactEqualPowerSums", fn := fun _ => fun
  | [d1, d2] => { results := [.lit (.bool false)], args := [d1, d2] }
  | _ => none }
def FnExactEqualPowerSumsWrongFalsely : Prop := fnExactEqualPowerSumsRow.holds Tryd.pinned (OpenSpec.ofChange fnExactEqualPowerSumsWrong)

/-- 'laws.FnExactFirstPair': WHATEVER THE INPUT: true; the input reads as it did. -/
def fnExactFirstPairSpec : ChangeSpec := { name := "fnExactFirstPair", fn := fun _ => fun
  | [d1, d2] => { results := [.lit (.bool true)], args := [d1, d2] }
  | _ => none }
def fnExactFirstPairRow : OpenClaim := { program := "ytobbbaagoiejeaadoor", sum := "bccdd04c0b470612bce32599852be2fa1f726825c491cfd34eacc00a4145b8dc", func := "loop.example/g03203/laws.FnExactFirstPair", spec := "fnExactFirstPair", named := ["math/bits.deBruijn32tab", "math/bits.deBruijn64tab"], apart := false, laid := [("math/bits.deBruijn32tab", laid_math_bits_deBruijn32tab), ("math/bits.deBruijn64tab", laid_math_bits_deBruijn64tab)] }
def FnExactFirstPairSaid : Prop := fnExactFirstPairRow.holds Tryd.pinned (OpenSpec.ofChange fnExactFirstPairSpec)

/-- ITS FALSE NEIGHBOUR: 'it returns false'. Refute it at one input. -/
def fnExactFirstPairWrong : ChangeSpec := { name := "fnExactFirstPair", fn := fun _ => fun
  | [d1, d2] => { results := [.lit (.bool false)], args := [d1, d2] }
  | _ => none }
def FnExactFirstPairWrongFalsely : Prop := fnExactFirstPairRow.holds Tryd.pinned (OpenSpec.ofChange fnExactFirstPairWrong)

/-- 'laws.FnExactSplitLines': WHATEVER THE INPUT: true; the input reads as it did. -/
def fnExactSplitLinesSpec : ChangeSpec := { name := "fnExactSplitLines", fn := fun _ => fun
  | [d] => { results := [.lit (.bool true)], args := [d] }
  | _ => none }
def fnExactSplitLinesRow : OpenClaim := { program := "ytobbbaagoiejeaadoor", sum := "bccdd04c0b470612bce32599852be2fa1f726825c491cfd34eacc00a4145b8dc", func := "loop.example/g03203/laws.FnExactSplitLines", spec := "fnExactSplitLines", inPlace := ["internal/bytealg.CountString", "internal/bytealg.IndexByteString", "internal/bytealg.IndexString"], named := ["unicode/utf8.first", "unicode/utf8.acceptRanges", "internal/bytealg.MaxLen"], apart := false, laid := [("unicode/utf8.acceptRanges", laid_unicode_utf8_acceptRanges), ("unicode/utf8.first", laid_unicode_utf8_first)] }
def FnExactSplitLinesSaid : Prop := fnExactSplitLinesRow.holds Tryd.pinned (OpenSpec.ofChange fnExactSplitLinesSpec)

/-- ITS FALSE NEIGHBOUR: 'it returns false'. Refute it at one input. -/
def fnExactSplitLinesWrong : ChangeSpec := { name := "fnExactSplitLines", fn := fun _ => fun
  | [d] => { results := [.lit (.bool false)], args := [d] }
  | _ => none }
def FnExactSplitLinesWrongFalsely : Prop := fnExactSplitLinesRow.holds Tryd.pinned (OpenSpec.ofChange fnExactSplitLinesWrong)

/- THE SECOND FORM. 'bulk': how many values and letters a reading holds, each counted each time it is reached (what is shared counts as often as it is met; a slice's spare places count too). A statement '..UptoSaid' is the law's where the arguments, and the package variables that the reading takes, are together of bulk at most 1048576: NARROWER than '..Said'. Prove '..Said' where nothing that the law and all that it calls make is longer than what came in: it says more and counts as full. Else prove '..UptoSaid'. A law counts once. -/
mutual
def uptoBulk {H : Type} : DataW H → Nat
  | .lit (.string bytes) => bytes.length + 1
  | .lit _ => 1
  | .nil => 1
  | .ptr d => uptoBulk d + 1
  | .slice elems spare => uptoBulkAll elems + uptoBulkAll spare + 1
  | .agg parts => uptoBulkAll parts + 1
  | .iface _ d => uptoBulk d + 1
  | .map entries => uptoBulkEntries entries + 1
  | .held _ => 1
def uptoBulkAll {H : Type} : List (DataW H) → Nat
  | [] => 0
  | d :: r => uptoBulk d + uptoBulkAll r
def uptoBulkEntries {H : Type} : List (Lit × DataW H) → Nat
  | [] => 0
  | x :: r => uptoBulkEntry x + uptoBulkEntries r
def uptoBulkEntry {H : Type} : Lit × DataW H → Nat
  | (.string bytes, d) => bytes.length + uptoBulk d + 1
  | (_, d) => uptoBulk d + 1
 end
def uptoSmall : (H : Type) → List (DataW H) → Bool := fun _ ds => decide (uptoBulkAll ds ≤ 1048576)
def OpenSpec.upto (s : _root_.Go.ChangeSpec) : _root_.Go.OpenSpec := { _root_.Go.OpenSpec.ofChange s with cond := some uptoSmall }

/-- 'laws.FnExactSequenceAt', WHERE WHAT IT READS IS OF BULK AT MOST 1048576: true; the input reads as it did. -/
def fnExactSequenceAtUptoRow : OpenClaim := { program := "ytobbbaagoiejeaadoor", sum := "bccdd04c0b470612bce32599852be2fa1f726825c491cfd34eacc00a4145b8dc", func := "loop.example/g03203/laws.FnExactSequenceAt", spec := "fnExactSequenceAt", named := ["math/bits.deBruijn32tab", "math/bits.deBruijn64tab"], apart := false, laid := [("math/bits.deBruijn32tab", laid_math_bits_deBruijn32tab), ("math/bits.deBruijn64tab", laid_math_bits_deBruijn64tab)], narrowed := true }
def FnExactSequenceAtUptoSaid : Prop := fnExactSequenceAtUptoRow.holds Tryd.pinned (OpenSpec.upto fnExactSequenceAtSpec)

/-- 'laws.FnExactSumOf', WHERE WHAT IT READS IS OF BULK AT MOST 1048576: true; the input reads as it did. -/
def fnExactSumOfUptoRow : OpenClaim := { program := "ytobbbaagoiejeaadoor", sum := "bccdd04c0b470612bce32599852be2fa1f726825c491cfd34eacc00a4145b8dc", func := "loop.example/g03203/laws.FnExactSumOf", spec := "fnExactSumOf", named := ["math/bits.deBruijn32tab", "math/bits.deBruijn64tab"], apart := false, laid := [("math/bits.deBruijn32tab", laid_math_bits_deBruijn32tab), ("math/bits.deBruijn64tab", laid_math_bits_deBruijn64tab)], narrowed := true }
def FnExactSumOfUptoSaid : Prop := fnExactSumOfUptoRow.holds Tryd.pinned (OpenSpec.upto fnExactSumOfSpec)

/-- 'laws.FnExactPartWord', WHERE WHAT IT READS IS OF BULK AT MOST 1048576: true; the input reads as it did. -/
def fnExactPartWordUptoRow : OpenClaim := { program := "ytobbbaagoiejeaadoor", sum := "bccdd04c0b470612bce32599852be2fa1f726825c491cfd34eacc00a4145b8dc", func := "loop.example/g03203/laws.FnExactPartWord", spec := "fnExactPartWord", named := ["math/bits.deBruijn32tab", "math/bits.deBruijn64tab"], apart := false, laid := [("math/bits.deBruijn32tab", laid_math_bits_deBruijn32tab), ("math/bits.deBruijn64tab", laid_math_bits_deBruijn64tab)], narrowed := true }
def FnExactPartWordUptoSaid : Prop := fnExactPartWordUptoRow.holds Tryd.pinned (OpenSpec.upto fnExactPartWordSpec)

/-- 'laws.FnExactSequenceWord', WHERE WHAT IT READS IS OF BULK AT MOST 1048576: true; the input reads as it did. -/
def fnExactSequenceWordUptoRow : OpenClaim := { program := "ytobbbaagoiejeaadoor", sum := "bccdd04c0b470612bce32599852be2fa1f726825c491cfd34eacc00a4145b8dc", func := "loop.example/g03203/laws.FnExactSequenceWord", spec := "fnExactSequenceWord", named := ["math/bits.deBruijn32tab", "math/bits.deBruijn64tab"], apart := false, laid := [("math/bits.deBruijn32tab", laid_math_bits_deBruijn32tab), ("math/bits.deBruijn64tab", laid_math_bits_deBruijn64tab)], narrowed := true }
def FnExactSequenceWordUptoSaid : Prop := fnExactSequenceWordUptoRow.holds Tryd.pinned (OpenSpec.upto fnExactSequenceWordSpec)

/-- 'laws.FnExactEqualPowerSums', WHERE WHAT IT READS IS OF BULK AT MOST 1048576: true; the input reads as it did. -/
def fnExactEqualPowerSumsUptoRow : OpenClaim := { program := "ytobbbaagoiejeaadoor", sum := "bccdd04c0b470612bce32599852be2fa1f726825c491cfd34eacc00a4145b8dc", func := "loop.example/g03203/laws.FnExactEqualPowerSums", spec := "fnExactEqualPowerSums", named := ["math/bits.deBruijn32tab", "math/bits.deBruijn64tab"], apart := false, laid := [("math/bits.deBruijn32tab", laid_math_bits_deBruijn32tab), ("math/bits.deBruijn64tab", laid_math_bits_deBruijn64tab)], narrowed := true }
def FnExactEqualPowerSumsUptoSaid : Prop := fnExactEqualPowerSumsUptoRow.holds Tryd.pinned (OpenSpec.upto fnExactEqualPowerSumsSpec)

/-- 'laws.FnExactFirstPair', WHERE WHAT IT READS IS OF BULK AT MOST 1048576: true; the input reads as it did. -/
def fnExactFirstPairUptoRow : OpenClaim := { program := "ytobbbaagoiejeaadoor", sum := "bccdd04c0b470612bce32599852be2fa1f726825c491cfd34eacc00a4145b8dc", func := "loop.example/g03203/laws.FnExactFirstPair", spec := "fnExactFirstPair", named := ["math/bits.deBruijn32tab", "math/bits.deBruijn64tab"], apart := false, laid := [("math/bits.deBruijn32tab", laid_math_bits_deBruijn32tab), ("math/bits.deBruijn64tab", laid_math_bits_deBruijn64tab)], narrowed := true }
def FnExactFirstPairUptoSaid : Prop := fnExactFirstPairUptoRow.holds Tryd.pinned (OpenSpec.upto fnExactFirstPairSpec)

/-- 'laws.FnExactSplitLines', WHERE WHAT IT READS IS OF BULK AT MOST 1048576: true; the input reads as it did. -/
def fnExactSplitLinesUptoRow : OpenClaim := { program := "ytobbbaagoiejeaadoor", sum := "bccdd04c0b470612bce32599852be2fa1f726825c491cfd34eacc00a4145b8dc", func := "loop.example/g03203/laws.FnExactSplitLines", spec := "fnExactSplitLines", inPlace := ["internal/bytealg.CountString", "internal/bytealg.IndexByteString", "internal/bytealg.IndexString"], named := ["unicode/utf8.first", "unicode/utf8.acceptRanges", "internal/bytealg.MaxLen"], apart := false, laid := [("unicode/utf8.acceptRanges", laid_unicode_utf8_acceptRanges), ("unicode/utf8.first", laid_unicode_utf8_first)], narrowed := true }
def FnExactSplitLinesUptoSaid : Prop := fnExactSplitLinesUptoRow.holds Tryd.pinned (OpenSpec.upto fnExactSplitLinesSpec)

end Rows
end Go.Proofs.YtobbbaagoiejeaaDoor
