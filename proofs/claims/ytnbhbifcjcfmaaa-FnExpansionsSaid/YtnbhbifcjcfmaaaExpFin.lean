/- Contracts of IsFinite. Conditions: none. -/
import Derived.Test.YtnbhbifcjcfmaaaExpPer
namespace Go.Proofs.Ytnbhbifcjcfmaaa
open Go.RowKit
set_option linter.unusedVariables false

theorem exRN_bd (p q b : Int) : -1 ≤ exRN p q b ∧ exRN p q b ≤ 1000 := by
  have h := (ex_len p q b).2
  unfold exRN; cases hx : exB p q b
  · simp
  · rw [exPer_t hx, length_perL] at h; simp; omega

theorem i_IsFinite (p q b : Int) (w : World) : Calls Try.prog 17 #[.int .i64 p, .int .i64 q, .int .i64 b] w fun e w' => e = .returned (.bool (exRN p q b == 0)) ∧ Below w.heap.size w w' := by
  obtain ⟨v, hv⟩ : ∃ v, v = exRN p q b := ⟨_, rfl⟩
  have HV := Lib.hid hv
  rw [← hv]
  clear hv
  go_enter Try.func17, Try.ntmps17
  go_wp2_with fail
  refine (i_PeriodLength p q b _).mono ?_
  rw [← HV.out]
  rintro e w1 ⟨rfl, hb⟩
  go_wp2
  go_ret
  exact ⟨rfl, hb⟩

theorem s_IsFinite (p q b : Int) (w : World) : Calls Try.prog 25 #[.int .i64 p, .int .i64 q, .int .i64 b] w fun e w' => e = .returned (.bool (exRN p q b == 0)) ∧ Below w.heap.size w w' := by
  obtain ⟨v, hv⟩ : ∃ v, v = exRN p q b := ⟨_, rfl⟩
  have HV := Lib.hid hv
  rw [← hv]
  clear hv
  go_enter Try.func25, Try.ntmps25
  go_wp2_with fail
  refine (s_PeriodLength p q b _).mono ?_
  rw [← HV.out]
  rintro e w1 ⟨rfl, hb⟩
  go_wp2
  go_ret
  exact ⟨rfl, hb⟩
end Go.Proofs.Ytnbhbifcjcfmaaa
