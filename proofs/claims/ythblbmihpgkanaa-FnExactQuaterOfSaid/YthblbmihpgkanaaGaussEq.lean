/- Contract of eqGauss. Conditions: none. -/
import Derived.Test.YthblbmihpgkanaaGauss
namespace Go.Proofs.Ythblbmihpgkanaa
open Go.RowKit
set_option linter.unusedVariables false

theorem eqGauss_b (x y : Int) (w : World) :
    Calls Try.prog 20 #[.agg #[.int .i64 x, .int .i64 y], .agg #[.int .i64 x, .int .i64 y]] w fun e w' => e = .returned (.bool true) ∧ Below w.heap.size w w' := by
  go_enter Try.func20, Try.ntmps20
  go_wp2
  go_ret
  exact ⟨rfl, b_alloc (b_alloc (Below.refl _ _) _) _⟩
end Go.Proofs.Ythblbmihpgkanaa
