/- Contracts of DivideGauss outside the range and with a divisor of zero. Conditions: none. -/
import Derived.Test.YthblbmihpgkanaaDoorGaussBad
import Derived.Test.YthblbmihpgkanaaDoorGaussNear
namespace Go.Proofs.YthblbmihpgkanaaDoor
open Go.RowKit
set_option linter.unusedVariables false

set_option maxHeartbeats 1000000 in
theorem impl_div_badA (x y u v : Int) (w : World) (HG : Hid (¬ gok x y)) :
    Calls Tryd.prog 15 #[.agg #[.int .i64 x, .int .i64 y], .agg #[.int .i64 u, .int .i64 v]] w fun e w' => e = .returned (.tuple #[.agg #[.int .i64 0, .int .i64 0], .agg #[.int .i64 0, .int .i64 0], .bool false]) ∧ Below w.heap.size w w' := by
  go_enter Tryd.func15, Tryd.ntmps15
  go_wp2_with (first | (go_at_call 11; (with_reducible refine (impl_gok_bad x y _ HG).mono ?_); rintro e w1 ⟨rfl, c1, rfl⟩))
  exact bodyPost_ret (v := .tuple #[.agg #[.int .i64 0, .int .i64 0], .agg #[.int .i64 0, .int .i64 0], .bool false]) (by simp [results, Tryd.results15, go_sem]) rfl ⟨rfl, by repeat (first | exact Below.refl _ _ | refine b_alloc ?_ _ | refine b_drew ?_ | refine b_set ?_ (by (try simp) <;> omega) _)⟩

set_option maxHeartbeats 1000000 in
theorem impl_div_badB (x y u v : Int) (w : World) (h1 : -100000 ≤ x) (h2 : x ≤ 100000) (h3 : -100000 ≤ y) (h4 : y ≤ 100000) (HG : Hid (¬ gok u v)) :
    Calls Tryd.prog 15 #[.agg #[.int .i64 x, .int .i64 y], .agg #[.int .i64 u, .int .i64 v]] w fun e w' => e = .returned (.tuple #[.agg #[.int .i64 0, .int .i64 0], .agg #[.int .i64 0, .int .i64 0], .bool false]) ∧ Below w.heap.size w w' := by
  go_enter Tryd.func15, Tryd.ntmps15
  go_wp2_with (first | (go_at_call 11; (with_reducible refine (impl_gok_ok x y _ h1 h2 h3 h4).mono ?_); rintro e w1 ⟨rfl, c1, rfl⟩) | (go_at_call 11; (with_reducible refine (impl_gok_bad u v _ HG).mono ?_); rintro e w1 ⟨rfl, c1, rfl⟩))
  exact bodyPost_ret (v := .tuple #[.agg #[.int .i64 0, .int .i64 0], .agg #[.int .i64 0, .int .i64 0], .bool false]) (by simp [results, Tryd.results15, go_sem]) rfl ⟨rfl, by repeat (first | exact Below.refl _ _ | refine b_alloc ?_ _ | refine b_drew ?_ | refine b_set ?_ (by (try simp) <;> omega) _)⟩

set_option maxHeartbeats 1000000 in
theorem impl_div_zero (x y : Int) (w : World) (h1 : -100000 ≤ x) (h2 : x ≤ 100000) (h3 : -100000 ≤ y) (h4 : y ≤ 100000) :
    Calls Tryd.prog 15 #[.agg #[.int .i64 x, .int .i64 y], .agg #[.int .i64 0, .int .i64 0]] w fun e w' => e = .returned (.tuple #[.agg #[.int .i64 0, .int .i64 0], .agg #[.int .i64 0, .int .i64 0], .bool false]) ∧ Below w.heap.size w w' := by
  go_enter Tryd.func15, Tryd.ntmps15
  go_wp2_with (first | (go_at_call 11; (with_reducible refine (impl_gok_ok x y _ h1 h2 h3 h4).mono ?_); rintro e w1 ⟨rfl, c1, rfl⟩) | (go_at_call 11; (with_reducible refine (impl_gok_ok 0 0 _ (by omega) (by omega) (by omega) (by omega)).mono ?_); rintro e w1 ⟨rfl, c1, rfl⟩))
  exact bodyPost_ret (v := .tuple #[.agg #[.int .i64 0, .int .i64 0], .agg #[.int .i64 0, .int .i64 0], .bool false]) (by simp [results, Tryd.results15, go_sem]) rfl ⟨rfl, by repeat (first | exact Below.refl _ _ | refine b_alloc ?_ _ | refine b_drew ?_ | refine b_set ?_ (by (try simp) <;> omega) _)⟩
end Go.Proofs.YthblbmihpgkanaaDoor
