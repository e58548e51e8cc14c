/- Contracts of power, l14Power. Conditions: numbers of at most 10^18. -/
import Derived.Test.YtnbhbifcjcfmaaaRow
namespace Go.Proofs.Ytnbhbifcjcfmaaa
open Go.RowKit
set_option linter.unusedVariables false
set_option maxHeartbeats 1000000 in
theorem i_power (b : Int) (k : Nat) (w : World) (h1 : 0 ≤ b) (hk : k ≤ 64) (hb : ∀ j, j ≤ k → b ^ j ≤ 1000000000000000000) :
    Calls Try.prog 45 #[.int .i64 b, .int .i64 k] w fun e w' => e = .returned (.int .i64 (b ^ k)) ∧ w = w' := by
  have HB := Lib.hid hb
  clear hb
  go_enter Try.func45, Try.ntmps45
  go_wp2
  go_loop [5, 7] (fun o i => ∃ j : Nat, j ≤ k ∧ i = .int .i64 j ∧ o = .int .i64 (b ^ j)) (fun _ i => k - (intOf i).toNat)
  case atStart => exact ⟨0, Nat.zero_le _, rfl, by simp⟩
  case round =>
    obtain ⟨j, hj, rfl, rfl⟩ := hrel
    by_cases hlt : j < k
    · obtain ⟨v, hv⟩ : ∃ v, v = b ^ j := ⟨_, rfl⟩
      have b1 : 0 ≤ v * b := Int.mul_nonneg (by rw [hv]; exact Int.pow_nonneg h1) h1
      have b2 : v * b ≤ 1000000000000000000 := by rw [hv, ← Int.pow_succ]; exact HB.out (j + 1) (by omega)
      have HS := Lib.hid (show b ^ (j + 1) = v * b by rw [hv, Int.pow_succ])
      rw [← hv]
      clear hv
      go_wp2
      go_round
      case rel => exact ⟨j + 1, by omega, by go_num, by rw [HS.out]⟩
      case measure => simp [intOf]; omega
    · obtain rfl : j = k := by omega
      go_wp2
      go_ret
      exact ⟨rfl, rfl⟩

set_option maxHeartbeats 1000000 in
theorem s_power (b : Int) (k : Nat) (w : World) (h1 : 0 ≤ b) (hk : k ≤ 64) (hb : ∀ j, j ≤ k → b ^ j ≤ 1000000000000000000) :
    Calls Try.prog 52 #[.int .i64 b, .int .i64 k] w fun e w' => e = .returned (.int .i64 (b ^ k)) ∧ w = w' := by
  have HB := Lib.hid hb
  clear hb
  go_enter Try.func52, Try.ntmps52
  go_wp2
  go_loop [5, 6] (fun o i => ∃ j : Nat, j ≤ k ∧ i = .int .i64 j ∧ o = .int .i64 (b ^ j)) (fun _ i => k - (intOf i).toNat)
  case atStart => exact ⟨0, Nat.zero_le _, rfl, by simp⟩
  case round =>
    obtain ⟨j, hj, rfl, rfl⟩ := hrel
    by_cases hlt : j < k
    · obtain ⟨v, hv⟩ : ∃ v, v = b ^ j := ⟨_, rfl⟩
      have b1 : 0 ≤ v * b := Int.mul_nonneg (by rw [hv]; exact Int.pow_nonneg h1) h1
      have b2 : v * b ≤ 1000000000000000000 := by rw [hv, ← Int.pow_succ]; exact HB.out (j + 1) (by omega)
      have HS := Lib.hid (show b ^ (j + 1) = v * b by rw [hv, Int.pow_succ])
      rw [← hv]
      clear hv
      go_wp2
      go_round
      case rel => exact ⟨j + 1, by omega, by go_num, by rw [HS.out]⟩
      case measure => simp [intOf]; omega
    · obtain rfl : j = k := by omega
      go_wp2
      go_ret
      exact ⟨rfl, rfl⟩
end Go.Proofs.Ytnbhbifcjcfmaaa
