/- Contracts of PadicNegate (program and reference). Conditions: lengths of at most 2^20. -/
import Derived.Test.YtjdfpodmjpkfpaaPadOps
namespace Go.Proofs.Ytjdfpodmjpkfpaa
open Go.RowKit
set_option linter.unusedVariables false

/-- The digits that PadicNegate gives. -/
noncomputable def negR (p : Int) (xs : List Int) : List Int := if padB p xs then plc p xs.length ((-(val p xs)) % p ^ xs.length) else []
theorem length_negR (p : Int) (xs : List Int) (hl : xs.length ≤ 4294967296) : (negR p xs).length ≤ 4294967296 := by
  unfold negR; split
  · rw [length_plc]; exact hl
  · simp

theorem i_neg_of (x y : Int) (w : World) (hx : 0 ≤ x) (hx2 : x ≤ 815730720) :
    Calls Try.prog 53 #[.int .i64 x, .int .i64 y] w fun e w' => e = .returned (.int .i64 (-x)) ∧ w = w' := by
  go_enter Try.func53, Try.ntmps53
  go_wp2
  go_ret
  exact ⟨rfl, rfl⟩

set_option maxHeartbeats 2000000 in
theorem i_neg (A : Option Addr) (xs : List Int) (c1 : Nat) (p : Int) (w : World) (hR : RI w w.heap.size A xs) (hlx : xs.length ≤ 1048576) :
    Calls Try.prog 24 #[.slice A xs.length c1, .int .i64 p] w (RetLB w (negR p xs) (padB p xs)) := by
  have hmf : ∀ (fn : Fn) (first cap : Array Value) (w : World), (Instr.makeFunc fn first cap).run Try.prog w = .ok (.func fn first cap) w := fun _ _ _ _ => rfl
  by_cases ha : PadP p xs
  · skip
    have HV := Lib.hid (padB_t ha)
    have HR := Lib.hid (show negR p xs = plc p xs.length ((-(val p xs)) % p ^ xs.length) by unfold negR; rw [HV.out]; rfl)
    obtain ⟨p1, p2⟩ := primeB_bd ha.1
    obtain ⟨u1, u2⟩ := ha.val_bd
    have n8 := ha.2.2.1
    have HPW := Lib.hid (fun j (hj : j ≤ xs.length) => pow_bd p1 p2 (show j ≤ 8 by omega))
    have HDX := Lib.hid ha.digits
    obtain ⟨u, hu⟩ : ∃ u, u = val p xs := ⟨_, rfl⟩
    obtain ⟨M, hM⟩ : ∃ M, M = p ^ xs.length := ⟨_, rfl⟩
    have hM1 := (pow_bd p1 p2 n8)
    rw [← hM] at hM1
    rw [← hu, ← hM] at HR
    rw [← hu] at u1 u2
    obtain ⟨M1, M2⟩ := hM1
    have z1 : 0 ≤ (-u) % M := Int.emod_nonneg _ (by omega)
    have z2 : (-u) % M < M := Int.emod_lt_of_pos _ (by omega)
    have HU := Lib.hid hu
    have HMM := Lib.hid hM
    clear ha hu hM
    go_enter Try.func24, Try.ntmps24
    go_wp2_with (first | (go_at_call 50; go_in))
    refine (i_padOk A xs c1 p _ hR (by omega)).mono ?_
    rw [HV.out]
    rintro e w1 ⟨rfl, hb1⟩
    have hR1 := (hR.below hb1).more hb1.size
    have T1 := b_step (Below.refl _ _) hb1
    clear hb1 hR
    go_wp2_with fail
    refine (i_padOk A xs c1 p _ hR1 (by omega)).mono ?_
    rw [HV.out]
    rintro e w2 ⟨rfl, hb2⟩
    have hR2 := (hR1.below hb2).more hb2.size
    have T2 := b_step T1 hb2
    clear hb2 hR1 T1
    have hne : ((xs.length : Int) != (xs.length : Int)) = false := by simp
    go_wp2_with fail
    refine (i_power p xs.length _ (by omega) (by omega) fun j hj => by have := (HPW.out j hj).2; omega).mono ?_
    rw [← HMM.out]
    rintro e w3 ⟨rfl, rfl⟩
    go_wp2_with fail
    refine (i_valueOf A xs c1 p _ hR2 p1 (by omega) (by omega) HDX.out).mono ?_
    rw [← HU.out]
    rintro e w3 ⟨rfl, rfl⟩
    go_wp2_with fail
    refine (i_valueOf A xs c1 p _ hR2 p1 (by omega) (by omega) HDX.out).mono ?_
    rw [← HU.out]
    rintro e w3 ⟨rfl, rfl⟩
    go_wp2_with fail
    refine (i_neg_of u u _ u1 u2).mono ?_
    rintro e w3 ⟨rfl, rfl⟩
    go_wp2_with fail
    refine (i_mod _ _ _ M1 (by omega)).mono ?_
    rintro e w3 ⟨rfl, rfl⟩
    go_wp2_with fail
    refine (i_placed _ p xs.length _ z1 (by omega) p1 (by omega) (by omega)).mono ?_
    intro e w4 h4
    obtain ⟨A4, c4, rfl, hO, hb4⟩ := h4.toLB T2
    clear h4 T2 z1 z2
    go_wp2
    go_ret2
    rw [HR.out, HV.out]
    exact ⟨A4, c4, rfl, hO, hb4⟩
  · have HV := Lib.hid (padB_f ha)
    have HR := Lib.hid (show negR p xs = [] by unfold negR; rw [HV.out]; rfl)
    clear ha
    go_enter Try.func24, Try.ntmps24
    go_wp2_with (first | (go_at_call 50; go_in))
    refine (i_padOk A xs c1 p _ hR (by omega)).mono ?_
    rw [HV.out]
    rintro e w1 ⟨rfl, hb1⟩
    have T1 := Lib.hid (b_step (Below.refl _ _) hb1)
    clear hb1
    go_wp2
    go_ret2
    rw [HR.out, HV.out]
    exact RetLB.nil _ _ T1.out

set_option maxHeartbeats 2000000 in
theorem s_neg (A : Option Addr) (xs : List Int) (c1 : Nat) (p : Int) (w : World) (hR : RI w w.heap.size A xs) (hlx : xs.length ≤ 1048576) :
    Calls Try.prog 38 #[.slice A xs.length c1, .int .i64 p] w (RetLB w (negR p xs) (padB p xs)) := by
  by_cases ha : PadP p xs
  · skip
    have HV := Lib.hid (padB_t ha)
    have HR := Lib.hid (show negR p xs = plc p xs.length ((-(val p xs)) % p ^ xs.length) by unfold negR; rw [HV.out]; rfl)
    obtain ⟨p1, p2⟩ := primeB_bd ha.1
    obtain ⟨u1, u2⟩ := ha.val_bd
    have n8 := ha.2.2.1
    have HPW := Lib.hid (fun j (hj : j ≤ xs.length) => pow_bd p1 p2 (show j ≤ 8 by omega))
    have HDX := Lib.hid ha.digits
    obtain ⟨u, hu⟩ : ∃ u, u = val p xs := ⟨_, rfl⟩
    obtain ⟨M, hM⟩ : ∃ M, M = p ^ xs.length := ⟨_, rfl⟩
    have hM1 := (pow_bd p1 p2 n8)
    rw [← hM] at hM1
    rw [← hu, ← hM] at HR
    rw [← hu] at u1 u2
    obtain ⟨M1, M2⟩ := hM1
    have z1 : 0 ≤ (-u) % M := Int.emod_nonneg _ (by omega)
    have z2 : (-u) % M < M := Int.emod_lt_of_pos _ (by omega)
    have HU := Lib.hid hu
    have HMM := Lib.hid hM
    clear ha hu hM
    go_enter Try.func38, Try.ntmps38
    go_wp2_with fail
    refine (s_padOk A xs c1 p _ hR (by omega)).mono ?_
    rw [HV.out]
    rintro e w1 ⟨rfl, hb1⟩
    have hR1 := (hR.below hb1).more hb1.size
    have T1 := b_step (Below.refl _ _) hb1
    clear hb1 hR
    go_wp2_with fail
    refine (s_power p xs.length _ (by omega) (by omega) fun j hj => by have := (HPW.out j hj).2; omega).mono ?_
    rw [← HMM.out]
    rintro e w3 ⟨rfl, rfl⟩
    go_wp2_with fail
    refine (s_l02Value A xs c1 p _ hR1 p1 (by omega) n8 HDX.out).mono ?_
    rw [← HU.out]
    rintro e w3 ⟨rfl, rfl⟩
    go_wp2_with fail
    refine (s_mod _ _ _ M1 (by omega)).mono ?_
    rintro e w3 ⟨rfl, rfl⟩
    go_wp2_with fail
    refine (s_digits _ p xs.length _ z1 (by omega) p1 (by omega) (by omega)).mono ?_
    intro e w4 h4
    obtain ⟨A4, c4, rfl, hO, hb4⟩ := h4.toLB T1
    clear h4 T1 z1 z2
    go_wp2
    go_ret2
    rw [HR.out, HV.out]
    exact ⟨A4, c4, rfl, hO, hb4⟩
  · have HV := Lib.hid (padB_f ha)
    have HR := Lib.hid (show negR p xs = [] by unfold negR; rw [HV.out]; rfl)
    clear ha
    go_enter Try.func38, Try.ntmps38
    go_wp2_with fail
    refine (s_padOk A xs c1 p _ hR (by omega)).mono ?_
    rw [HV.out]
    rintro e w1 ⟨rfl, hb1⟩
    have T1 := Lib.hid (b_step (Below.refl _ _) hb1)
    clear hb1
    go_wp2
    go_ret2
    rw [HR.out, HV.out]
    exact RetLB.nil _ _ T1.out
end Go.Proofs.Ytjdfpodmjpkfpaa
