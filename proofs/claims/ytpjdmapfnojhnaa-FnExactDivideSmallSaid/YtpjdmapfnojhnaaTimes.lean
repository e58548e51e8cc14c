/- The walks of spec.TimesStep and impl.TimesStep, and of the law over them. Conditions: none. -/
import Derived.Test.YtpjdmapfnojhnaaBase
import Derived.Test.YtpjdmapfnojhnaaRows
namespace Go.Proofs.Ytpjdmapfnojhnaa
open Go.RowKit
theorem s_times_ok (b k c d : Int) (w : World) (h1 : 2 ≤ b) (h2 : b ≤ 16) (h3 : 1 ≤ k) (h4 : k ≤ 16) (h5 : 0 ≤ c) (h6 : c ≤ k - 1) (h7 : 0 ≤ d) (h8 : d ≤ b - 1) :
   Calls Try.prog 12 #[.int .i64 b, .int .i64 k, .int .i64 c, .int .i64 d] w fun e w' => e = .returned (.tuple #[.int .i64 ((d * k + c) % b), .int .i64 ((d * k + c) / b)]) ∧ ∃ n, w' = w.drewN n := by
    have hp0 : 0 ≤ d * k := Int.mul_nonneg h7 (by omega)
    have hp1 : d * k ≤ 240 := Int.le_trans (Int.mul_le_mul (show d ≤ 15 by omega) h4 (by omega) (by omega)) (by omega)
    go_enter Try.func12, Try.ntmps12
    go_wp2
    go_quiet (fail)
    go_wp2
    go_ret2
    exact ⟨rfl, _, rfl⟩
theorem i_times_ok (b k c d : Int) (w : World) (h1 : 2 ≤ b) (h2 : b ≤ 16) (h3 : 1 ≤ k) (h4 : k ≤ 16) (h5 : 0 ≤ c) (h6 : c ≤ k - 1) (h7 : 0 ≤ d) (h8 : d ≤ b - 1) :
   Calls Try.prog 13 #[.int .i64 b, .int .i64 k, .int .i64 c, .int .i64 d] w fun e w' => e = .returned (.tuple #[.int .i64 ((d * k + c) % b), .int .i64 ((d * k + c) / b)]) ∧ ∃ n, w' = w.drewN n := by
    have hp0 : 0 ≤ d * k := Int.mul_nonneg h7 (by omega)
    have hp1 : d * k ≤ 240 := Int.le_trans (Int.mul_le_mul (show d ≤ 15 by omega) h4 (by omega) (by omega)) (by omega)
    go_enter Try.func13, Try.ntmps13
    go_wp2
    go_quiet (fail)
    go_wp2
    go_ret2
    exact ⟨rfl, _, rfl⟩
theorem walk_times (b : Int) (_ : (Lit.int .i64 b).wf = true) (k : Int) (_ : (Lit.int .i64 k).wf = true) (c : Int) (_ : (Lit.int .i64 c).wf = true) (d : Int) (_ : (Lit.int .i64 d).wf = true) (w : World) :
   Calls Try.prog 3 #[.int .i64 b, .int .i64 k, .int .i64 c, .int .i64 d] w fun e w' => e = .returned (.bool true) ∧ Below w.heap.size w w' := by
  by_cases hg : 2 ≤ b ∧ b ≤ 16 ∧ 1 ≤ k ∧ k ≤ 16 ∧ 0 ≤ c ∧ c ≤ k - 1 ∧ 0 ≤ d ∧ d ≤ b - 1
  · obtain ⟨h1, h2, h3, h4, h5, h6, h7, h8⟩ := hg
    go_enter Try.func3, Try.ntmps3
    go_wp2_with (first | (go_at_call 12; refine (s_times_ok b k c d _ h1 h2 h3 h4 h5 h6 h7 h8).mono ?_; rintro e w1 ⟨rfl, n1, rfl⟩) | (go_at_call 13; refine (i_times_ok b k c d _ h1 h2 h3 h4 h5 h6 h7 h8).mono ?_; rintro e w2 ⟨rfl, n2, rfl⟩))
    go_ret
    exact ⟨rfl, below_drewN (Below.refl _ _) _⟩
  · have hg' : ¬ (2 ≤ b ∧ b ≤ 16 ∧ 1 ≤ k ∧ k ≤ 16 ∧ 0 ≤ c ∧ c ≤ k - 1 ∧ 0 ≤ d ∧ d ≤ b - 1) := hg
    have HG := Lib.hid hg'
    clear hg hg'
    go_enter Try.func3, Try.ntmps3
    go_wp2
    all_goals first | (go_ret; exact ⟨rfl, Below.refl _ _⟩) | (exfalso; apply HG.out; simp_all; done)
end Go.Proofs.Ytpjdmapfnojhnaa
