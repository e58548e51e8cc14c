/-
  No cell of these rows narrows 'for every input' (looked for: loops, veiled, ifaces, maps, wideKeys, modest, calm, conditions, laid).
  DERIVED. THE GIVEN ROWS OF THIS SEAT. 5 by the template 'for every input the law returns true; each argument reads behind the call as it read before'; 0 by the template 'total and deterministic' (their statements: YtoihjapbidbpdaaTotals.lean).
  GIVEN WITH THE SEED: the statements are not yours to turn. If you find one false, say at which input.
  Laid BY PROGRAM, IN A SANDBOX (cutbox-rows.mjs): the forced cells as the released guide's own fill.sh prints them over the translation d6a485cec6db8d79… (all of the seat's roots in one cut). By AI agents, Wed Nov 11 2026. No macro, syntax, notation, axiom, sorry.
-/
import Derived.Test.YtoihjapbidbpdaaChecked
import GoSem.Claim
import GoSem.ClaimJoined
import GoSem.ClaimMapViews
import Derived.JoinedTies
import Derived.KernelRfl
namespace Go.Proofs.Ytoihjapbidbpdaa
/- THE CELL 'sum', in the pinned program and in every row, IS THE sha256 OF THE DUMP (.gsa) THAT YtoihjapbidbpdaaProg.lean LOADS. Nothing in Lean hashes anything: it is a label: what it is worth is what the hold of that sum in a sandbox is worth. -/
noncomputable def Try.pinned : Pinned := { name := "ytoihjapbidbpdaa", sum := "d6a485cec6db8d799cc5a412a6c62d8ea67f17c0d658709835ee4f1afb9ca384", checked := Try.checked }
namespace Rows
def none {H : Type} : Left H := { results := [], args := [] }

/-- 'laws.FnExactMultiplesOf': WHATEVER THE INPUT: true; the input reads as it did. -/
def fnExactMultiplesOfSpec : ChangeSpec := { name := "fnExactMultiplesOf", fn := fun _ => fun
  | [d1, d2] => { results := [.lit (.bool true)], args := [d1, d2] }
  | _ => none }
def fnExactMultiplesOfRow : OpenClaim := { program := "ytoihjapbidbpdaa", sum := "d6a485cec6db8d799cc5a412a6c62d8ea67f17c0d658709835ee4f1afb9ca384", func := "loop.example/g03203/laws.FnExactMultiplesOf", spec := "fnExactMultiplesOf", apart := false }
def FnExactMultiplesOfSaid : Prop := fnExactMultiplesOfRow.holds Try.pinned (OpenSpec.ofChange fnExactMultiplesOfSpec)

/-- ITS FALSE NEIGHBOUR: 'it returns false'. Refute it at one input. -/
def fnExactMultiplesOfWrong : ChangeSpec := { name := "fnExactMultiplesOf", fn := fun _ => fun
  | [d1, d2] => { results := [.lit (.bool false)], args := [d1, d2] }
  | _ => none }
def FnExactMultiplesOfWrongFalsely : Prop := fnExactMultiplesOfRow.holds Try.pinned (OpenSpec.ofChange fnExactMultiplesOfWrong)

/-- 'laws.FnExactMachineOk': WHATEVER THE INPUT: true; the input reads as it did. -/
def fnExactMachineOkSpec : ChangeSpec := { name := "fnExactMachineOk", fn := fun _ => fun
  | [d] => { results := [.lit (.bool true)], args := [d] }
  | _ => none }
def fnExactMachineOkRow : OpenClaim := { program := "ytoihjapbidbpdaa", sum := "d6a485cec6db8d799cc5a412a6c62d8ea67f17c0d658709835ee4f1afb9ca384", func := "loop.example/g03203/laws.FnExactMachineOk", spec := "fnExactMachineOk", unfollowed := true, recurses := true, apart := false }
def FnExactMachineOkSaid : Prop := fnExactMachineOkRow.holds Try.pinned (OpenSpec.ofChange fnExactMachineOkSpec)

/-- ITS FALSE NEIGHBOUR: 'it returns false'. Refute it at one input. -/
def fnExactMachineOkWrong : ChangeSpec := { name := "fnExactMachineOk", fn := fun _ => fun
  | [d] => { results := [.lit (.bool false)], args := [d] }
  | _ => none }
def FnExactMachineOkWrongFalsely : Prop := fnExactMachineOkRow.holds Try.pinned (OpenSpec.ofChange fnExactMachineOkWrong)

/-- 'laws.FnExactWithoutDigit': WHATEVER THE INPUT: true; the input reads as it did. -/
def fnExactWithoutDigitSpec : ChangeSpec := { name := "fnExactWithoutDigit", fn := fun _ => fun
  | [d1, d2] => { results := [.lit (.bool true)], args := [d1, d2] }
  | _ => none }
def fnExactWithoutDigitRow : OpenClaim := { program := "ytoihjapbidbpdaa", sum := "d6a485cec6db8d799cc5a412a6c62d8ea67f17c0d658709835ee4f1afb9ca384", func := "loop.example/g03203/laws.FnExactWithoutDigit", spec := "fnExactWithoutDigit", apart := false }
def FnExactWithoutDigitSaid : Prop := fnExactWithoutDigitRow.holds Try.pinned (OpenSpec.ofChange fnExactWithoutDigitSpec)

/-- ITS FALSE NEIGHBOUR: 'it returns false'. Refute it at one input. -/
def fnExactWithoutDigitWrong : ChangeSpec := { name := "fnExactWithoutDigit", fn := fun _ => fun
  | [d1, d2] => { results := [.lit (.bool false)], args := [d1, d2] }
  | _ => none }
def FnExactWithoutDigitWrongFalsely : Prop := fnExactWithoutDigitRow.holds Try.pinned (OpenSpec.ofChange fnExactWithoutDigitWrong)

/-- 'laws.FnExactCountAccepted': WHATEVER THE INPUT: true; the input reads as it did. -/
def fnExactCountAcceptedSpec : ChangeSpec := { name := "fnExactCountAccepted", fn := fun _ => fun
  | [d1, d2] => { results := [.lit (.bool true)], args := [d1, d2] }
  | _ => none }
def fnExactCountAcceptedRow : OpenClaim := { program := "ytoihjapbidbpdaa", sum := "d6a485cec6db8d799cc5a412a6c62d8ea67f17c0d658709835ee4f1afb9ca384", func := "loop.example/g03203/laws.FnExactCountAccepted", spec := "fnExactCountAccepted", unfollowed := true, recurses := true, apart := false }
def FnExactCountAcceptedSaid : Prop := fnExactCountAcceptedRow.holds Try.pinned (OpenSpec.ofChange fnExactCountAcceptedSpec)

/-- ITS FALSE NEIGHBOUR: 'it returns false'. Refute it at one input. -/
def fnExactCountAcceptedWrong : ChangeSpec := { name := "fnExactCountAccepted", fn := fun _ => fun
  | [d1, d2] => { results := [.lit (.bool false)], args := [d1, d2] }
  | _ => none }
def FnExactCountAcceptedWrongFalsely : Prop := fnExactCountAcceptedRow.holds Try.pinned (OpenSpec.ofChange fnExactCountAcceptedWrong)

/-- 'laws.FnExactJoinMachines': WHATEVER THE INPUT: true; the input reads as it did. -/
def fnExactJoinMachinesSpec : ChangeSpec := { name := "fnExactJoinMachines", fn := fun _ => fun
  | [d1, d2, d3] => { results := [.lit (.bool true)], args := [d1, d2, d3] }
  | _ => none }
def fnExactJoinMachinesRow : OpenClaim := { program := "ytoihjapbidbpdaa", sum := "d6a485cec6db8d799cc5a412a6c62d8ea67f17c0d658709835ee4f1afb9ca384", func := "loop.example/g03203/laws.FnExactJoinMachines", spec := "fnExactJoinMachines", unfollowed := true, recurses := true, apart := false }
def FnExactJoinMachinesSaid : Prop := fnExactJoinMachinesRow.holds Try.pinned (OpenSpec.ofChange fnExactJoinMachinesSpec)

/-- ITS FALSE NEIGHBOUR: 'it returns false'. Refute it at one input. -/
def fnExactJoinMachinesWrong : ChangeSpec := { name := "fnExactJoinMachines", fn := fun _ => fun
  | [d1, d2, d3] => { results := [.lit (.bool false)], args := [d1, d2, d3] }
  | _ => none }
def FnExactJoinMachinesWrongFalsely : Prop := fnExactJoinMachinesRow.holds Try.pinned (OpenSpec.ofChange fnExactJoinMachinesWrong)

/- THE SECOND FORM. 'bulk': how many values and letters a reading holds, each counted each time it is reached (what is shared counts as often as it is met; a slice's spare places count too). A statement '..UptoSaid' is the law's where the arguments, and the package variables that the reading takes, are together of bulk at most 1048576: NARROWER than '..Said'. Prove '..Said' where nothing that the law and all that it calls make is longer than what came in: it says more and counts as full. Else prove '..UptoSaid'. A law counts once. -/
mutual
def uptoBulk {H : Type} : DataW H → Nat
  | .lit (.string bytes) => bytes.length + 1
  | .lit _ => 1
  | .nil => 1
  | .ptr d => uptoBulk d + 1
  | .slice elems spare => uptoBulkAll elems + uptoBulkAll spare + 1
  | .agg parts => uptoBulkAll parts + 1
  | .iface _ d => uptoBulk d + 1
  | .map entries => uptoBulkEntries entries + 1
  | .held _ => 1
def uptoBulkAll {H : Type} : List (DataW H) → Nat
  | [] => 0
  | d :: r => uptoBulk d + uptoBulkAll r
def uptoBulkEntries {H : Type} : List (Lit × DataW H) → Nat
  | [] => 0
  | x :: r => uptoBulkEntry x + uptoBulkEntries r
def uptoBulkEntry {H : Type} : Lit × DataW H → Nat
  | (.string bytes, d) => bytes.length + uptoBulk d + 1
  | (_, d) => uptoBulk d + 1
 end
def uptoSmall : (H : Type) → List (DataW H) → Bool := fun _ ds => decide (uptoBulkAll ds ≤ 1048576)
def OpenSpec.upto (s : _root_.Go.ChangeSpec) : _root_.Go.OpenSpec := { _root_.Go.OpenSpec.ofChange s with cond := some uptoSmall }

/-- 'laws.FnExactMultiplesOf', WHERE WHAT IT READS IS OF BULK AT MOST 1048576: true; the input reads as it did. -/
def fnExactMultiplesOfUptoRow : OpenClaim := { program := "ytoihjapbidbpdaa", sum := "d6a485cec6db8d799cc5a412a6c62d8ea67f17c0d658709835ee4f1afb9ca384", func := "loop.example/g03203/laws.FnExactMultiplesOf", spec := "fnExactMultiplesOf", apart := false, narrowed := true }
def FnExactMultiplesOfUptoSaid : Prop := fnExactMultiplesOfUptoRow.holds Try.pinned (OpenSpec.upto fnExactMultiplesOfSpec)

/-- 'laws.FnExactMachineOk', WHERE WHAT IT READS IS OF BULK AT MOST 1048576: true; the input reads as it did. -/
def fnExactMachineOkUptoRow : OpenClaim := { program := "ytoihjapbidbpdaa", sum := "d6a485cec6db8d799cc5a412a6c62d8ea67f17c0d658709835ee4f1afb9ca384", func := "loop.example/g03203/laws.FnExactMachineOk", spec := "fnExactMachineOk", unfollowed := true, recurses := true, apart := false, narrowed := true }
def FnExactMachineOkUptoSaid : Prop := fnExactMachineOkUptoRow.holds Try.pinned (OpenSpec.upto fnExactMachineOkSpec)

/-- 'laws.FnExactWithoutDigit', WHERE WHAT IT READS IS OF BULK AT MOST 1048576: true; the input reads as it did. -/
def fnExactWithoutDigitUptoRow : OpenClaim := { program := "ytoihjapbidbpdaa", sum := "d6a485cec6db8d799cc5a412a6c62d8ea67f17c0d658709835ee4f1afb9ca384", func := "loop.example/g03203/laws.FnExactWithoutDigit", spec := "fnExactWithoutDigit", apart := false, narrowed := true }
def FnExactWithoutDigitUptoSaid : Prop := fnExactWithoutDigitUptoRow.holds Try.pinned (OpenSpec.upto fnExactWithoutDigitSpec)

/-- 'laws.FnExactCountAccepted', WHERE WHAT IT READS IS OF BULK AT MOST 1048576: true; the input reads as it did. -/
def fnExactCountAcceptedUptoRow : OpenClaim := { program := "ytoihjapbidbpdaa", sum := "d6a485cec6db8d799cc5a412a6c62d8ea67f17c0d658709835ee4f1afb9ca384", func := "loop.example/g03203/laws.FnExactCountAccepted", spec := "fnExactCountAccepted", unfollowed := true, recurses := true, apart := false, narrowed := true }
def FnExactCountAcceptedUptoSaid : Prop := fnExactCountAcceptedUptoRow.holds Try.pinned (OpenSpec.upto fnExactCountAcceptedSpec)

/-- 'laws.FnExactJoinMachines', WHERE WHAT IT READS IS OF BULK AT MOST 1048576: true; the input reads as it did. -/
def fnExactJoinMachinesUptoRow : OpenClaim := { program := "ytoihjapbidbpdaa", sum := "d6a485cec6db8d799cc5a412a6c62d8ea67f17c0d658709835ee4f1afb9ca384", func := "loop.example/g03203/laws.FnExactJoinMachines", spec := "fnExactJoinMachines", unfollowed := true, recurses := true, apart := false, narrowed := true }
def FnExactJoinMachinesUptoSaid : Prop := fnExactJoinMachinesUptoRow.holds Try.pinned (OpenSpec.upto fnExactJoinMachinesSpec)

end Rows
end Go.Proofs.Ytoihjapbidbpdaa
