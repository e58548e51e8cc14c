/- The walks of the laws EqualPowerSums over the contracts. Conditions: the listed table. -/
import Derived.Test.YtobbbaagoiejeaaDoorEqI
namespace Go.Proofs.YtobbbaagoiejeaaDoor
open Go.RowKit
set_option linter.unusedVariables false

set_option maxHeartbeats 1000000 in
theorem walk_FnExactEqualPowerSums (w : World) (k : Int) (_ : (Lit.int .i64 k).wf = true) (e : Int) (_ : (Lit.int .i64 e).wf = true) (hT : Tab w) :
    Calls Tryd.prog 7 #[.int .i64 k, .int .i64 e] w fun e w' => e = .returned (.bool true) ∧ Below w.heap.size w w' := by
  go_enter Tryd.func7, Tryd.ntmps7
  go_wp2_with (first | (go_at_call 18; refine (s_EqualPowerSums k e _).mono ?_; rintro e w1 ⟨rfl, hb1⟩; have HT1 := Lib.hid (hT.below hb1); have HB1 := Lib.hid hb1; clear hb1) | (go_at_call 19; refine (i_EqualPowerSums k e _ HT1.out).mono ?_; rintro e w2 ⟨rfl, hb2⟩; have HB2 := Lib.hid (b_step HB1.out hb2); clear hb2))
  go_ret
  exact ⟨rfl, HB2.out⟩
end Go.Proofs.YtobbbaagoiejeaaDoor
