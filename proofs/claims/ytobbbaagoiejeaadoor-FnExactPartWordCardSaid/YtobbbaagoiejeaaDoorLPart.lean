/- The walks of the laws PartWord over the contracts. Conditions: the listed table. -/
import Derived.Test.YtobbbaagoiejeaaDoorPartI
namespace Go.Proofs.YtobbbaagoiejeaaDoor
open Go.RowKit
set_option linter.unusedVariables false

set_option maxHeartbeats 1000000 in
theorem walk_FnExactPartWord (w : World) (k : Int) (_ : (Lit.int .i64 k).wf = true) (i : Int) (_ : (Lit.int .i64 i).wf = true) (r : Int) (_ : (Lit.int .i64 r).wf = true) (n : Int) (_ : (Lit.int .i64 n).wf = true) (hT : Tab w) :
    Calls Tryd.prog 5 #[.int .i64 k, .int .i64 i, .int .i64 r, .int .i64 n] w fun e w' => e = .returned (.bool true) ∧ Below w.heap.size w w' := by
  go_enter Tryd.func5, Tryd.ntmps5
  go_wp2_with (first | (go_at_call 14; refine (s_PartWord k i r n _).mono ?_; rintro e w1 ⟨rfl, hb1⟩; have HT1 := Lib.hid (hT.below hb1); have HB1 := Lib.hid hb1; clear hb1) | (go_at_call 15; refine (i_PartWord k i r n _ HT1.out).mono ?_; rintro e w2 ⟨rfl, hb2⟩; have HB2 := Lib.hid (b_step HB1.out hb2); clear hb2))
  go_ret
  exact ⟨rfl, HB2.out⟩
end Go.Proofs.YtobbbaagoiejeaaDoor
