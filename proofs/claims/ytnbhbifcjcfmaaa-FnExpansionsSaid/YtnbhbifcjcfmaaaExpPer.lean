/- Contracts of PeriodLength. Conditions: none. -/
import Derived.Test.YtnbhbifcjcfmaaaExpI
import Derived.Test.YtnbhbifcjcfmaaaExpN
namespace Go.Proofs.Ytnbhbifcjcfmaaa
open Go.RowKit
set_option linter.unusedVariables false

set_option maxHeartbeats 1000000 in
theorem i_PeriodLength (p q b : Int) (w : World) : Calls Try.prog 16 #[.int .i64 p, .int .i64 q, .int .i64 b] w fun e w' => e = .returned (.int .i64 (exRN p q b)) ∧ Below w.heap.size w w' := by
  cases hx : exB p q b
  · have HX := Lib.hid hx
    have HV := Lib.hid (show exRN p q b = -1 by unfold exRN; rw [hx]; rfl)
    clear hx
    go_enter Try.func16, Try.ntmps16
    go_wp2_with fail
    refine (i_exp p q b _).mono ?_
    rw [HX.out]
    rintro e w1 ⟨A1, c1, A2, c2, B, rfl, _, _, _, _, _, hb⟩
    go_wp2
    go_ret
    exact ⟨by rw [HV.out]; rfl, hb⟩
  · have HX := Lib.hid hx
    have HV := Lib.hid (show exRN p q b = ((exPer p q b).length : Int) by unfold exRN; rw [hx, exPer_t hx, length_perL]; rfl)
    have hle := (ex_len p q b).2
    clear hx
    go_enter Try.func16, Try.ntmps16
    go_wp2_with fail
    refine (i_exp p q b _).mono ?_
    rw [HX.out]
    rintro e w1 ⟨A1, c1, A2, c2, B, rfl, _, _, _, _, _, hb⟩
    go_wp2
    go_ret
    exact ⟨by rw [HV.out]; rfl, hb⟩
set_option maxHeartbeats 1000000 in
theorem s_PeriodLength (p q b : Int) (w : World) : Calls Try.prog 23 #[.int .i64 p, .int .i64 q, .int .i64 b] w fun e w' => e = .returned (.int .i64 (exRN p q b)) ∧ Below w.heap.size w w' := by
  cases hx : exB p q b
  · have HX := Lib.hid hx
    have HV := Lib.hid (show exRN p q b = -1 by unfold exRN; rw [hx]; rfl)
    clear hx
    go_enter Try.func23, Try.ntmps23
    go_wp2_with fail
    refine (s_exok p q b _).mono ?_
    rw [HX.out]
    rintro e w1 ⟨rfl, rfl⟩
    go_wp2
    go_ret
    exact ⟨by rw [HV.out]; rfl, Below.refl _ _⟩
  · have HX := Lib.hid hx
    have HV := Lib.hid (show exRN p q b = (perN b q p : Int) by unfold exRN; rw [hx]; rfl)
    obtain ⟨q1, q2, p1, p2, b1, b2⟩ := exB_iff.1 hx
    obtain ⟨Q, rfl⟩ := Int.eq_ofNat_of_zero_le (show 0 ≤ q by omega)
    clear hx
    go_enter Try.func23, Try.ntmps23
    go_wp2_with fail
    refine (s_exok p Q b _).mono ?_
    rw [HX.out]
    rintro e w1 ⟨rfl, rfl⟩
    go_wp2_with fail
    refine (s_lens p b Q _ (by omega) (by omega) p1 p2 b1 b2).mono ?_
    rintro e w1 ⟨rfl, hb⟩
    go_wp2
    go_ret
    exact ⟨by rw [HV.out]; rfl, hb⟩
end Go.Proofs.Ytnbhbifcjcfmaaa
