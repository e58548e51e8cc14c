/- The walks of the laws FirstPair over the contracts. Conditions: the listed table. -/
import Derived.Test.YtobbbaagoiejeaaDoorPair
namespace Go.Proofs.YtobbbaagoiejeaaDoor
open Go.RowKit
set_option linter.unusedVariables false

set_option maxHeartbeats 1000000 in
theorem walk_FnExactFirstPair (w : World) (k : Int) (_ : (Lit.int .i64 k).wf = true) (n : Int) (_ : (Lit.int .i64 n).wf = true) (hT : Tab w) :
    Calls Tryd.prog 8 #[.int .i64 k, .int .i64 n] w fun e w' => e = .returned (.bool true) ∧ Below w.heap.size w w' := by
  go_enter Tryd.func8, Tryd.ntmps8
  go_wp2_with (first | (go_at_call 20; refine (s_FirstPair k n _).mono ?_; rintro e w1 ⟨rfl, hb1⟩; have HT1 := Lib.hid (hT.below hb1); have HB1 := Lib.hid hb1; clear hb1) | (go_at_call 21; refine (i_FirstPair k n _ HT1.out).mono ?_; rintro e w2 ⟨rfl, hb2⟩; have HB2 := Lib.hid (b_step HB1.out hb2); clear hb2))
  go_ret
  exact ⟨rfl, HB2.out⟩
end Go.Proofs.YtobbbaagoiejeaaDoor
