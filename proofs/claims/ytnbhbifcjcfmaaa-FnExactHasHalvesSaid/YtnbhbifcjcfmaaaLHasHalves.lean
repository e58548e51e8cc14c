/- The walk of the law on HasHalves. Conditions: none. -/
import Derived.Test.YtnbhbifcjcfmaaaExpH
namespace Go.Proofs.Ytnbhbifcjcfmaaa
open Go.RowKit
set_option linter.unusedVariables false
set_option maxHeartbeats 1000000 in
theorem walk_HasHalves0 (p : Int) (q : Int) (b : Int) (w : World)   :
    Calls Try.prog 8 #[.int .i64 p, .int .i64 q, .int .i64 b] w fun e w' => e = .returned (.bool true) ∧ Below w.heap.size w w' := by
  have T0 : Below w.heap.size w w := Below.refl _ _
  go_enter Try.func8, Try.ntmps8
  go_wp2_with fail
  refine (s_HasHalves p q b _).mono ?_
  rintro e w1 ⟨rfl, hb1⟩
  have T1 := b_step T0 hb1
  have sz1 := hb1.size
  clear hb1
  go_wp2_with fail
  refine (i_HasHalves p q b _).mono ?_
  rintro e w2 ⟨rfl, hb2⟩
  have T2 := b_step T1 hb2
  have sz2 := hb2.size
  clear hb2
  go_wp2
  go_ret
  exact ⟨rfl, T2⟩

theorem walk_HasHalves (w : World) (p : Int) (_ : (Lit.int .i64 p).wf = true) (q : Int) (_ : (Lit.int .i64 q).wf = true) (b : Int) (_ : (Lit.int .i64 b).wf = true) :
    Calls Try.prog 8 #[.int .i64 p, .int .i64 q, .int .i64 b] w fun e w' => e = .returned (.bool true) ∧ Below w.heap.size w w' := by
  exact walk_HasHalves0 p q b w 
end Go.Proofs.Ytnbhbifcjcfmaaa
