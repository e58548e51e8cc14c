/-
  No cell of these rows narrows 'for every input' (looked for: loops, veiled, ifaces, maps, wideKeys, modest, calm, conditions, laid).
  DERIVED. THE GIVEN ROWS OF THIS SEAT. 10 by the template 'for every input the law returns true; each argument reads behind the call as it read before'; 0 by the template 'total and deterministic' (their statements: YthblbmihpgkanaaTotals.lean).
  GIVEN WITH THE SEED: the statements are not yours to turn. If you find one false, say at which input.
  Laid BY PROGRAM, IN A SANDBOX (cutbox-rows.mjs): the forced cells as the released guide's own fill.sh prints them over the translation db1e231a56aad5b2… (all of the seat's roots in one cut). By AI agents, Wed Nov 11 2026. No macro, syntax, notation, axiom, sorry.
-/
import Derived.Test.YthblbmihpgkanaaChecked
import GoSem.Claim
import GoSem.ClaimJoined
import GoSem.ClaimMapViews
import Derived.JoinedTies
import Derived.KernelRfl
namespace Go.Proofs.Ythblbmihpgkanaa
/- THE CELL 'sum', in the pinned program and in every row, IS THE sha256 OF THE DUMP (.gsa) THAT YthblbmihpgkanaaProg.lean LOADS. Nothing in Lean hashes anything: it is a label: what it is worth is what the hold of that sum in a sandbox is worth. -/
noncomputable def Try.pinned : Pinned := { name := "ythblbmihpgkanaa", sum := "db1e231a56aad5b2d01405fe6c30fbc15c294a30d824a6d52eff707be04c2b1d", checked := Try.checked }
namespace Rows
def none {H : Type} : Left H := { results := [], args := [] }

/-- 'laws.FnExactGaussOk': WHATEVER THE INPUT: true; the input reads as it did. -/
def fnExactGaussOkSpec : ChangeSpec := { name := "fnExactGaussOk", fn := fun _ => fun
  | [d] => { results := [.lit (.bool true)], args := [d] }
  | _ => none }
def fnExactGaussOkRow : OpenClaim := { program := "ythblbmihpgkanaa", sum := "db1e231a56aad5b2d01405fe6c30fbc15c294a30d824a6d52eff707be04c2b1d", func := "loop.example/g03203/laws.FnExactGaussOk", spec := "fnExactGaussOk", apart := false }
def FnExactGaussOkSaid : Prop := fnExactGaussOkRow.holds Try.pinned (OpenSpec.ofChange fnExactGaussOkSpec)

/-- ITS FALSE NEIGHBOUR: 'it returns false'. Refute it at one input. -/
def fnExactGaussOkWrong : ChangeSpec := { name := "fnExactGaussOk", fn := fun _ => fun
  | [d] => { results := [.lit (.bool false)], args := [d] }
  | _ => none }
def FnExactGaussOkWrongFalsely : Prop := fnExactGaussOkRow.holds Try.pinned (OpenSpec.ofChange fnExactGaussOkWrong)

/-- 'laws.FnExactNormOf': WHATEVER THE INPUT: true; the input reads as it did. -/
def fnExactNormOfSpec : ChangeSpec := { name := "fnExactNormOf", fn := fun _ => fun
  | [d] => { results := [.lit (.bool true)], args := [d] }
  | _ => none }
def fnExactNormOfRow : OpenClaim := { program := "ythblbmihpgkanaa", sum := "db1e231a56aad5b2d01405fe6c30fbc15c294a30d824a6d52eff707be04c2b1d", func := "loop.example/g03203/laws.FnExactNormOf", spec := "fnExactNormOf", apart := false }
def FnExactNormOfSaid : Prop := fnExactNormOfRow.holds Try.pinned (OpenSpec.ofChange fnExactNormOfSpec)

/-- ITS FALSE NEIGHBOUR: 'it returns false'. Refute it at one input. -/
def fnExactNormOfWrong : ChangeSpec := { name := "fnExactNormOf", fn := fun _ => fun
  | [d] => { results := [.lit (.bool false)], args := [d] }
  | _ => none }
def FnExactNormOfWrongFalsely : Prop := fnExactNormOfRow.holds Try.pinned (OpenSpec.ofChange fnExactNormOfWrong)

/-- 'laws.FnExactTurnGauss': WHATEVER THE INPUT: true; the input reads as it did. -/
def fnExactTurnGaussSpec : ChangeSpec := { name := "fnExactTurnGauss", fn := fun _ => fun
  | [d] => { results := [.lit (.bool true)], args := [d] }
  | _ => none }
def fnExactTurnGaussRow : OpenClaim := { program := "ythblbmihpgkanaa", sum := "db1e231a56aad5b2d01405fe6c30fbc15c294a30d824a6d52eff707be04c2b1d", func := "loop.example/g03203/laws.FnExactTurnGauss", spec := "fnExactTurnGauss", apart := false }
def FnExactTurnGaussSaid : Prop := fnExactTurnGaussRow.holds Try.pinned (OpenSpec.ofChange fnExactTurnGaussSpec)

/-- ITS FALSE NEIGHBOUR: 'it returns false'. Refute it at one input. -/
def fnExactTurnGaussWrong : ChangeSpec := { name := "fnExactTurnGauss", fn := fun _ => fun
  | [d] => { results := [.lit (.bool false)], args := [d] }
  | _ => none }
def FnExactTurnGaussWrongFalsely : Prop := fnExactTurnGaussRow.holds Try.pinned (OpenSpec.ofChange fnExactTurnGaussWrong)

/-- 'laws.FnExactGaussAdd': WHATEVER THE INPUT: true; the input reads as it did. -/
def fnExactGaussAddSpec : ChangeSpec := { name := "fnExactGaussAdd", fn := fun _ => fun
  | [d1, d2] => { results := [.lit (.bool true)], args := [d1, d2] }
  | _ => none }
def fnExactGaussAddRow : OpenClaim := { program := "ythblbmihpgkanaa", sum := "db1e231a56aad5b2d01405fe6c30fbc15c294a30d824a6d52eff707be04c2b1d", func := "loop.example/g03203/laws.FnExactGaussAdd", spec := "fnExactGaussAdd", apart := false }
def FnExactGaussAddSaid : Prop := fnExactGaussAddRow.holds Try.pinned (OpenSpec.ofChange fnExactGaussAddSpec)

/-- ITS FALSE NEIGHBOUR: 'it returns false'. Refute it at one input. -/
def fnExactGaussAddWrong : ChangeSpec := { name := "fnExactGaussAdd", fn := fun _ => fun
  | [d1, d2] => { results := [.lit (.bool false)], args := [d1, d2] }
  | _ => none }
def FnExactGaussAddWrongFalsely : Prop := fnExactGaussAddRow.holds Try.pinned (OpenSpec.ofChange fnExactGaussAddWrong)

/-- 'laws.FnExactGaussTimes': WHATEVER THE INPUT: true; the input reads as it did. -/
def fnExactGaussTimesSpec : ChangeSpec := { name := "fnExactGaussTimes", fn := fun _ => fun
  | [d1, d2] => { results := [.lit (.bool true)], args := [d1, d2] }
  | _ => none }
def fnExactGaussTimesRow : OpenClaim := { program := "ythblbmihpgkanaa", sum := "db1e231a56aad5b2d01405fe6c30fbc15c294a30d824a6d52eff707be04c2b1d", func := "loop.example/g03203/laws.FnExactGaussTimes", spec := "fnExactGaussTimes", apart := false }
def FnExactGaussTimesSaid : Prop := fnExactGaussTimesRow.holds Try.pinned (OpenSpec.ofChange fnExactGaussTimesSpec)

/-- ITS FALSE NEIGHBOUR: 'it returns false'. Refute it at one input. -/
def fnExactGaussTimesWrong : ChangeSpec := { name := "fnExactGaussTimes", fn := fun _ => fun
  | [d1, d2] => { results := [.lit (.bool false)], args := [d1, d2] }
  | _ => none }
def FnExactGaussTimesWrongFalsely : Prop := fnExactGaussTimesRow.holds Try.pinned (OpenSpec.ofChange fnExactGaussTimesWrong)

/-- 'laws.FnExactGaussDigits': WHATEVER THE INPUT: true; the input reads as it did. -/
def fnExactGaussDigitsSpec : ChangeSpec := { name := "fnExactGaussDigits", fn := fun _ => fun
  | [d] => { results := [.lit (.bool true)], args := [d] }
  | _ => none }
def fnExactGaussDigitsRow : OpenClaim := { program := "ythblbmihpgkanaa", sum := "db1e231a56aad5b2d01405fe6c30fbc15c294a30d824a6d52eff707be04c2b1d", func := "loop.example/g03203/laws.FnExactGaussDigits", spec := "fnExactGaussDigits", apart := false }
def FnExactGaussDigitsSaid : Prop := fnExactGaussDigitsRow.holds Try.pinned (OpenSpec.ofChange fnExactGaussDigitsSpec)

/-- ITS FALSE NEIGHBOUR: 'it returns false'. Refute it at one input. -/
def fnExactGaussDigitsWrong : ChangeSpec := { name := "fnExactGaussDigits", fn := fun _ => fun
  | [d] => { results := [.lit (.bool false)], args := [d] }
  | _ => none }
def FnExactGaussDigitsWrongFalsely : Prop := fnExactGaussDigitsRow.holds Try.pinned (OpenSpec.ofChange fnExactGaussDigitsWrong)

/-- 'laws.FnExactDivideGauss': WHATEVER THE INPUT: true; the input reads as it did. -/
def fnExactDivideGaussSpec : ChangeSpec := { name := "fnExactDivideGauss", fn := fun _ => fun
  | [d1, d2] => { results := [.lit (.bool true)], args := [d1, d2] }
  | _ => none }
def fnExactDivideGaussRow : OpenClaim := { program := "ythblbmihpgkanaa", sum := "db1e231a56aad5b2d01405fe6c30fbc15c294a30d824a6d52eff707be04c2b1d", func := "loop.example/g03203/laws.FnExactDivideGauss", spec := "fnExactDivideGauss", apart := false }
def FnExactDivideGaussSaid : Prop := fnExactDivideGaussRow.holds Try.pinned (OpenSpec.ofChange fnExactDivideGaussSpec)

/-- ITS FALSE NEIGHBOUR: 'it returns false'. Refute it at one input. -/
def fnExactDivideGaussWrong : ChangeSpec := { name := "fnExactDivideGauss", fn := fun _ => fun
  | [d1, d2] => { results := [.lit (.bool false)], args := [d1, d2] }
  | _ => none }
def FnExactDivideGaussWrongFalsely : Prop := fnExactDivideGaussRow.holds Try.pinned (OpenSpec.ofChange fnExactDivideGaussWrong)

/-- 'laws.FnExactQuaterDigits': WHATEVER THE INPUT: true; the input reads as it did. -/
def fnExactQuaterDigitsSpec : ChangeSpec := { name := "fnExactQuaterDigits", fn := fun _ => fun
  | [d] => { results := [.lit (.bool true)], args := [d] }
  | _ => none }
def fnExactQuaterDigitsRow : OpenClaim := { program := "ythblbmihpgkanaa", sum := "db1e231a56aad5b2d01405fe6c30fbc15c294a30d824a6d52eff707be04c2b1d", func := "loop.example/g03203/laws.FnExactQuaterDigits", spec := "fnExactQuaterDigits", apart := false }
def FnExactQuaterDigitsSaid : Prop := fnExactQuaterDigitsRow.holds Try.pinned (OpenSpec.ofChange fnExactQuaterDigitsSpec)

/-- ITS FALSE NEIGHBOUR: 'it returns false'. Refute it at one input. -/
def fnExactQuaterDigitsWrong : ChangeSpec := { name := "fnExactQuaterDigits", fn := fun _ => fun
  | [d] => { results := [.lit (.bool false)], args := [d] }
  | _ => none }
def FnExactQuaterDigitsWrongFalsely : Prop := fnExactQuaterDigitsRow.holds Try.pinned (OpenSpec.ofChange fnExactQuaterDigitsWrong)

/-- 'laws.FnExactGaussOf': WHATEVER THE INPUT: true; the input reads as it did. -/
def fnExactGaussOfSpec : ChangeSpec := { name := "fnExactGaussOf", fn := fun _ => fun
  | [d] => { results := [.lit (.bool true)], args := [d] }
  | _ => none }
def fnExactGaussOfRow : OpenClaim := { program := "ythblbmihpgkanaa", sum := "db1e231a56aad5b2d01405fe6c30fbc15c294a30d824a6d52eff707be04c2b1d", func := "loop.example/g03203/laws.FnExactGaussOf", spec := "fnExactGaussOf", unfollowed := true, recurses := true, apart := false }
def FnExactGaussOfSaid : Prop := fnExactGaussOfRow.holds Try.pinned (OpenSpec.ofChange fnExactGaussOfSpec)

/-- ITS FALSE NEIGHBOUR: 'it returns false'. Refute it at one input. -/
def fnExactGaussOfWrong : ChangeSpec := { name := "fnExactGaussOf", fn := fun _ => fun
  | [d] => { results := [.lit (.bool false)], args := [d] }
  | _ => none }
def FnExactGaussOfWrongFalsely : Prop := fnExactGaussOfRow.holds Try.pinned (OpenSpec.ofChange fnExactGaussOfWrong)

/-- 'laws.FnExactQuaterOf': WHATEVER THE INPUT: true; the input reads as it did. -/
def fnExactQuaterOfSpec : ChangeSpec := { name := "fnExactQuaterOf", fn := fun _ => fun
  | [d] => { results := [.lit (.bool true)], args := [d] }
  | _ => none }
def fnExactQuaterOfRow : OpenClaim := { program := "ythblbmihpgkanaa", sum := "db1e231a56aad5b2d01405fe6c30fbc15c294a30d824a6d52eff707be04c2b1d", func := "loop.example/g03203/laws.FnExactQuaterOf", spec := "fnExactQuaterOf", unfollowed := true, recurses := true, apart := false }
def FnExactQuaterOfSaid : Prop := fnExactQuaterOfRow.holds Try.pinned (OpenSpec.ofChange fnExactQuaterOfSpec)

/-- ITS FALSE NEIGHBOUR: 'it returns false'. Refute it at one input. -/
def fnExactQuaterOfWrong : ChangeSpec := { name := "fnExactQuaterOf", fn := fun _ => fun
  | [d] => { results := [.lit (.bool false)], args := [d] }
  | _ => none }
def FnExactQuaterOfWrongFalsely : Prop := fnExactQuaterOfRow.holds Try.pinned (OpenSpec.ofChange fnExactQuaterOfWrong)

/- THE SECOND FORM. 'bulk': how many values and letters a reading holds, each counted each time it is reached (what is shared counts as often as it is met; a slice's spare places count too). A statement '..UptoSaid' is the law's where the arguments, and the package variables that the reading takes, are together of bulk at most 1048576: NARROWER than '..Said'. Prove '..Said' where nothing that the law and all that it calls make is longer than what came in: it says more and counts as full. Else prove '..UptoSaid'. A law counts once. -/
mutual
def uptoBulk {H : Type} : DataW H → Nat
  | .lit (.string bytes) => bytes.length + 1
  | .lit _ => 1
  | .nil => 1
  | .ptr d => uptoBulk d + 1
  | .slice elems spare => uptoBulkAll elems + uptoBulkAll spare + 1
  | .agg parts => uptoBulkAll parts + 1
  | .iface _ d => uptoBulk d + 1
  | .map entries => uptoBulkEntries entries + 1
  | .held _ => 1
def uptoBulkAll {H : Type} : List (DataW H) → Nat
  | [] => 0
  | d :: r => uptoBulk d + uptoBulkAll r
def uptoBulkEntries {H : Type} : List (Lit × DataW H) → Nat
  | [] => 0
  | x :: r => uptoBulkEntry x + uptoBulkEntries r
def uptoBulkEntry {H : Type} : Lit × DataW H → Nat
  | (.string bytes, d) => bytes.length + uptoBulk d + 1
  | (_, d) => uptoBulk d + 1
 end
def uptoSmall : (H : Type) → List (DataW H) → Bool := fun _ ds => decide (uptoBulkAll ds ≤ 1048576)
def OpenSpec.upto (s : _root_.Go.ChangeSpec) : _root_.Go.OpenSpec := { _root_.Go.OpenSpec.ofChange s with cond := some uptoSmall }

/-- 'laws.FnExactGaussOk', WHERE WHAT IT READS IS OF BULK AT MOST 1048576: true; the input reads as it did. -/
def fnExactGaussOkUptoRow : OpenClaim := { program := "ythblbmihpgkanaa", sum := "db1e231a56aad5b2d01405fe6c30fbc15c294a30d824a6d52eff707be04c2b1d", func := "loop.example/g03203/laws.FnExactGaussOk", spec := "fnExactGaussOk", apart := false, narrowed := true }
def FnExactGaussOkUptoSaid : Prop := fnExactGaussOkUptoRow.holds Try.pinned (OpenSpec.upto fnExactGaussOkSpec)

/-- 'laws.FnExactNormOf', WHERE WHAT IT READS IS OF BULK AT MOST 1048576: true; the input reads as it did. -/
def fnExactNormOfUptoRow : OpenClaim := { program := "ythblbmihpgkanaa", sum := "db1e231a56aad5b2d01405fe6c30fbc15c294a30d824a6d52eff707be04c2b1d", func := "loop.example/g03203/laws.FnExactNormOf", spec := "fnExactNormOf", apart := false, narrowed := true }
def FnExactNormOfUptoSaid : Prop := fnExactNormOfUptoRow.holds Try.pinned (OpenSpec.upto fnExactNormOfSpec)

/-- 'laws.FnExactTurnGauss', WHERE WHAT IT READS IS OF BULK AT MOST 1048576: true; the input reads as it did. -/
def fnExactTurnGaussUptoRow : OpenClaim := { program := "ythblbmihpgkanaa", sum := "db1e231a56aad5b2d01405fe6c30fbc15c294a30d824a6d52eff707be04c2b1d", func := "loop.example/g03203/laws.FnExactTurnGauss", spec := "fnExactTurnGauss", apart := false, narrowed := true }
def FnExactTurnGaussUptoSaid : Prop := fnExactTurnGaussUptoRow.holds Try.pinned (OpenSpec.upto fnExactTurnGaussSpec)

/-- 'laws.FnExactGaussAdd', WHERE WHAT IT READS IS OF BULK AT MOST 1048576: true; the input reads as it did. -/
def fnExactGaussAddUptoRow : OpenClaim := { program := "ythblbmihpgkanaa", sum := "db1e231a56aad5b2d01405fe6c30fbc15c294a30d824a6d52eff707be04c2b1d", func := "loop.example/g03203/laws.FnExactGaussAdd", spec := "fnExactGaussAdd", apart := false, narrowed := true }
def FnExactGaussAddUptoSaid : Prop := fnExactGaussAddUptoRow.holds Try.pinned (OpenSpec.upto fnExactGaussAddSpec)

/-- 'laws.FnExactGaussTimes', WHERE WHAT IT READS IS OF BULK AT MOST 1048576: true; the input reads as it did. -/
def fnExactGaussTimesUptoRow : OpenClaim := { program := "ythblbmihpgkanaa", sum := "db1e231a56aad5b2d01405fe6c30fbc15c294a30d824a6d52eff707be04c2b1d", func := "loop.example/g03203/laws.FnExactGaussTimes", spec := "fnExactGaussTimes", apart := false, narrowed := true }
def FnExactGaussTimesUptoSaid : Prop := fnExactGaussTimesUptoRow.holds Try.pinned (OpenSpec.upto fnExactGaussTimesSpec)

/-- 'laws.FnExactGaussDigits', WHERE WHAT IT READS IS OF BULK AT MOST 1048576: true; the input reads as it did. -/
def fnExactGaussDigitsUptoRow : OpenClaim := { program := "ythblbmihpgkanaa", sum := "db1e231a56aad5b2d01405fe6c30fbc15c294a30d824a6d52eff707be04c2b1d", func := "loop.example/g03203/laws.FnExactGaussDigits", spec := "fnExactGaussDigits", apart := false, narrowed := true }
def FnExactGaussDigitsUptoSaid : Prop := fnExactGaussDigitsUptoRow.holds Try.pinned (OpenSpec.upto fnExactGaussDigitsSpec)

/-- 'laws.FnExactDivideGauss', WHERE WHAT IT READS IS OF BULK AT MOST 1048576: true; the input reads as it did. -/
def fnExactDivideGaussUptoRow : OpenClaim := { program := "ythblbmihpgkanaa", sum := "db1e231a56aad5b2d01405fe6c30fbc15c294a30d824a6d52eff707be04c2b1d", func := "loop.example/g03203/laws.FnExactDivideGauss", spec := "fnExactDivideGauss", apart := false, narrowed := true }
def FnExactDivideGaussUptoSaid : Prop := fnExactDivideGaussUptoRow.holds Try.pinned (OpenSpec.upto fnExactDivideGaussSpec)

/-- 'laws.FnExactQuaterDigits', WHERE WHAT IT READS IS OF BULK AT MOST 1048576: true; the input reads as it did. -/
def fnExactQuaterDigitsUptoRow : OpenClaim := { program := "ythblbmihpgkanaa", sum := "db1e231a56aad5b2d01405fe6c30fbc15c294a30d824a6d52eff707be04c2b1d", func := "loop.example/g03203/laws.FnExactQuaterDigits", spec := "fnExactQuaterDigits", apart := false, narrowed := true }
def FnExactQuaterDigitsUptoSaid : Prop := fnExactQuaterDigitsUptoRow.holds Try.pinned (OpenSpec.upto fnExactQuaterDigitsSpec)

/-- 'laws.FnExactGaussOf', WHERE WHAT IT READS IS OF BULK AT MOST 1048576: true; the input reads as it did. -/
def fnExactGaussOfUptoRow : OpenClaim := { program := "ythblbmihpgkanaa", sum := "db1e231a56aad5b2d01405fe6c30fbc15c294a30d824a6d52eff707be04c2b1d", func := "loop.example/g03203/laws.FnExactGaussOf", spec := "fnExactGaussOf", unfollowed := true, recurses := true, apart := false, narrowed := true }
def FnExactGaussOfUptoSaid : Prop := fnExactGaussOfUptoRow.holds Try.pinned (OpenSpec.upto fnExactGaussOfSpec)

/-- 'laws.FnExactQuaterOf', WHERE WHAT IT READS IS OF BULK AT MOST 1048576: true; the input reads as it did. -/
def fnExactQuaterOfUptoRow : OpenClaim := { program := "ythblbmihpgkanaa", sum := "db1e231a56aad5b2d01405fe6c30fbc15c294a30d824a6d52eff707be04c2b1d", func := "loop.example/g03203/laws.FnExactQuaterOf", spec := "fnExactQuaterOf", unfollowed := true, recurses := true, apart := false, narrowed := true }
def FnExactQuaterOfUptoSaid : Prop := fnExactQuaterOfUptoRow.holds Try.pinned (OpenSpec.upto fnExactQuaterOfSpec)

end Rows
end Go.Proofs.Ythblbmihpgkanaa
