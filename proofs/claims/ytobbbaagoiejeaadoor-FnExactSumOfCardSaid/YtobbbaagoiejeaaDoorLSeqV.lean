/- The walks of the laws SequenceAt and SumOf over the contracts. Conditions: the listed table. -/
import Derived.Test.YtobbbaagoiejeaaDoorSeqV
namespace Go.Proofs.YtobbbaagoiejeaaDoor
open Go.RowKit
set_option linter.unusedVariables false

set_option maxHeartbeats 1000000 in
theorem walk_FnExactSequenceAt (w : World) (k : Int) (_ : (Lit.int .i64 k).wf = true) (n : Int) (_ : (Lit.int .i64 n).wf = true) (hT : Tab w) :
    Calls Tryd.prog 3 #[.int .i64 k, .int .i64 n] w fun e w' => e = .returned (.bool true) ∧ Below w.heap.size w w' := by
  go_enter Tryd.func3, Tryd.ntmps3
  go_wp2_with (first | (go_at_call 10; refine (s_SequenceAt k n _).mono ?_; rintro e w1 ⟨rfl, hb1⟩; have HT1 := Lib.hid (hT.below hb1); have HB1 := Lib.hid hb1; clear hb1) | (go_at_call 11; refine (i_SequenceAt k n _ HT1.out).mono ?_; rintro e w2 ⟨rfl, hb2⟩; have HB2 := Lib.hid (b_step HB1.out hb2); clear hb2))
  go_ret
  exact ⟨rfl, HB2.out⟩
set_option maxHeartbeats 1000000 in
theorem walk_FnExactSumOf (w : World) (k : Int) (_ : (Lit.int .i64 k).wf = true) (n : Int) (_ : (Lit.int .i64 n).wf = true) (hT : Tab w) :
    Calls Tryd.prog 4 #[.int .i64 k, .int .i64 n] w fun e w' => e = .returned (.bool true) ∧ Below w.heap.size w w' := by
  go_enter Tryd.func4, Tryd.ntmps4
  go_wp2_with (first | (go_at_call 12; refine (s_SumOf k n _).mono ?_; rintro e w1 ⟨rfl, hb1⟩; have HT1 := Lib.hid (hT.below hb1); have HB1 := Lib.hid hb1; clear hb1) | (go_at_call 13; refine (i_SumOf k n _ HT1.out).mono ?_; rintro e w2 ⟨rfl, hb2⟩; have HB2 := Lib.hid (b_step HB1.out hb2); clear hb2))
  go_ret
  exact ⟨rfl, HB2.out⟩
end Go.Proofs.YtobbbaagoiejeaaDoor
