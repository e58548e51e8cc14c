/- Contracts of l15Two, PadicAdd and PadicTimes (reference). Conditions: lengths of at most 2^20. -/
import Derived.Test.YtjdfpodmjpkfpaaPadOps
namespace Go.Proofs.Ytjdfpodmjpkfpaa
open Go.RowKit
set_option linter.unusedVariables false

theorem s_two (A C : Option Addr) (xs ys : List Int) (c1 c2 : Nat) (p : Int) (w : World) (hR : RI w w.heap.size A xs) (hS : RI w w.heap.size C ys) (hlx : xs.length ≤ 1048576) (hly : ys.length ≤ 1048576) :
    Calls Try.prog 66 #[.slice A xs.length c1, .slice C ys.length c2, .int .i64 p] w fun e w' => e = .returned (.bool (twoB p xs ys)) ∧ Below w.heap.size w w' := by
  by_cases ha : PadP p xs
  · have HA := Lib.hid (padB_t ha)
    by_cases hc : PadP p ys
    · have HC := Lib.hid (padB_t hc)
      cases hq : decide (xs.length = ys.length)
      · have hne : ((xs.length : Int) == (ys.length : Int)) = false := by rw [beq_eq_false_iff_ne]; have := of_decide_eq_false hq; omega
        have HV := Lib.hid (twoB_f (p := p) (xs := xs) (ys := ys) fun hh => of_decide_eq_false hq hh.2.2)
        clear ha hc hq
        go_enter Try.func66, Try.ntmps66
        go_wp2_with fail
        refine (s_padOk A xs c1 p _ hR (by omega)).mono ?_
        rw [HA.out]
        rintro e w1 ⟨rfl, hb1⟩
        have hS1 := hS.below hb1
        have T1 := b_step (Below.refl _ _) hb1
        have s1 := hb1.size
        clear hb1
        go_wp2_with fail
        refine (s_padOk C ys c2 p _ (hS1.more s1) (by omega)).mono ?_
        rw [HC.out]
        rintro e w2 ⟨rfl, hb2⟩
        have T2 := Lib.hid (b_step T1 hb2)
        clear hb2 T1
        go_wp2
        go_ret
        exact ⟨by rw [HV.out]; first | rfl | simp_all, T2.out⟩
      · have hne : ((xs.length : Int) == (ys.length : Int)) = true := by rw [beq_iff_eq]; have := of_decide_eq_true hq; omega
        have HV := Lib.hid (twoB_t (p := p) (xs := xs) (ys := ys) ⟨ha, hc, of_decide_eq_true hq⟩)
        clear ha hc hq
        go_enter Try.func66, Try.ntmps66
        go_wp2_with fail
        refine (s_padOk A xs c1 p _ hR (by omega)).mono ?_
        rw [HA.out]
        rintro e w1 ⟨rfl, hb1⟩
        have hS1 := hS.below hb1
        have T1 := b_step (Below.refl _ _) hb1
        have s1 := hb1.size
        clear hb1
        go_wp2_with fail
        refine (s_padOk C ys c2 p _ (hS1.more s1) (by omega)).mono ?_
        rw [HC.out]
        rintro e w2 ⟨rfl, hb2⟩
        have T2 := Lib.hid (b_step T1 hb2)
        clear hb2 T1
        go_wp2
        go_ret
        exact ⟨by rw [HV.out]; first | rfl | simp_all, T2.out⟩
    · have HC := Lib.hid (padB_f hc)
      have HV := Lib.hid (twoB_f (p := p) (xs := xs) (ys := ys) fun hh => hc hh.2.1)
      clear ha hc
      go_enter Try.func66, Try.ntmps66
      go_wp2_with fail
      refine (s_padOk A xs c1 p _ hR (by omega)).mono ?_
      rw [HA.out]
      rintro e w1 ⟨rfl, hb1⟩
      have hS1 := hS.below hb1
      have T1 := b_step (Below.refl _ _) hb1
      have s1 := hb1.size
      clear hb1
      go_wp2_with fail
      refine (s_padOk C ys c2 p _ (hS1.more s1) (by omega)).mono ?_
      rw [HC.out]
      rintro e w2 ⟨rfl, hb2⟩
      have T2 := Lib.hid (b_step T1 hb2)
      clear hb2 T1
      go_wp2
      go_ret
      exact ⟨by rw [HV.out]; rfl, T2.out⟩
  · have HA := Lib.hid (padB_f ha)
    have HV := Lib.hid (twoB_f (p := p) (xs := xs) (ys := ys) fun hh => ha hh.1)
    clear ha
    go_enter Try.func66, Try.ntmps66
    go_wp2_with fail
    refine (s_padOk A xs c1 p _ hR (by omega)).mono ?_
    rw [HA.out]
    rintro e w1 ⟨rfl, hb1⟩
    go_wp2
    go_ret
    exact ⟨by rw [HV.out]; rfl, hb1⟩

set_option maxHeartbeats 2000000 in
theorem s_add (A C : Option Addr) (xs ys : List Int) (c1 c2 : Nat) (p : Int) (w : World) (hR : RI w w.heap.size A xs) (hS : RI w w.heap.size C ys) (hlx : xs.length ≤ 1048576) (hly : ys.length ≤ 1048576) :
    Calls Try.prog 37 #[.slice A xs.length c1, .slice C ys.length c2, .int .i64 p] w (RetLB w (addR p xs ys) (twoB p xs ys)) := by
  by_cases h : TwoP p xs ys
  · have HV := Lib.hid (twoB_t h)
    obtain ⟨ha, hc, he⟩ := h
    obtain ⟨p1, p2⟩ := primeB_bd ha.1
    obtain ⟨u1, u2⟩ := ha.val_bd
    obtain ⟨v1, v2⟩ := hc.val_bd
    have n8 := ha.2.2.1
    have m8 := hc.2.2.1
    have HPW := Lib.hid (fun j (hj : j ≤ xs.length) => pow_bd p1 p2 (show j ≤ 8 by omega))
    have HDX := Lib.hid ha.digits
    have HDY := Lib.hid hc.digits
    have HR := Lib.hid (show addR p xs ys = plc p xs.length (val p xs + val p ys) by unfold addR; rw [HV.out]; exact plc_mod p1 _ _)
    obtain ⟨u, hu⟩ : ∃ u, u = val p xs := ⟨_, rfl⟩
    obtain ⟨v, hv⟩ : ∃ v, v = val p ys := ⟨_, rfl⟩
    obtain ⟨M, hM⟩ : ∃ M, M = p ^ xs.length := ⟨_, rfl⟩
    have hM1 := (pow_bd p1 p2 n8)
    rw [← hM] at hM1
    rw [← hu, ← hv] at HR
    rw [← hu] at u1 u2
    rw [← hv] at v1 v2
    obtain ⟨M1, M2⟩ := hM1
    have q0 : 0 ≤ u * v := Int.mul_nonneg u1 v1
    have q1 : u * v ≤ 815730720 * 815730720 := Int.mul_le_mul u2 v2 v1 (by omega)
    have z1 : 0 ≤ (u * v) % M := Int.emod_nonneg _ (by omega)
    have z2 : (u * v) % M < M := Int.emod_lt_of_pos _ (by omega)
    have HU := Lib.hid hu
    have HVV := Lib.hid hv
    have HMM := Lib.hid hM
    clear ha hc he hu hv hM
    go_enter Try.func37, Try.ntmps37
    go_wp2_with fail
    refine (s_two A C xs ys c1 c2 p _ hR hS (by omega) (by omega)).mono ?_
    rw [HV.out]
    rintro e w1 ⟨rfl, hb1⟩
    have hR2 := (hR.below hb1).more hb1.size
    have hS2 := (hS.below hb1).more hb1.size
    have T2 := b_step (Below.refl _ _) hb1
    clear hb1 hR hS
    go_wp2_with fail
    refine (s_l02Value A xs c1 p _ hR2 p1 (by omega) n8 HDX.out).mono ?_
    rw [← HU.out]
    rintro e w3 ⟨rfl, rfl⟩
    go_wp2_with fail
    refine (s_l02Value C ys c2 p _ hS2 p1 (by omega) m8 HDY.out).mono ?_
    rw [← HVV.out]
    rintro e w3 ⟨rfl, rfl⟩
    go_wp2_with fail
    refine (s_digits _ p xs.length _ (by omega) (by omega) p1 (by omega) (by omega)).mono ?_
    intro e w4 h4
    obtain ⟨A4, c4, rfl, hO, hb4⟩ := h4.toLB T2
    clear h4 T2 z1 z2
    go_wp2
    go_ret2
    rw [HR.out, HV.out]
    exact ⟨A4, c4, rfl, hO, hb4⟩
  · have HV := Lib.hid (twoB_f h)
    have HR := Lib.hid (show addR p xs ys = [] by unfold addR; rw [HV.out]; rfl)
    clear h
    go_enter Try.func37, Try.ntmps37
    go_wp2_with fail
    refine (s_two A C xs ys c1 c2 p _ hR hS (by omega) (by omega)).mono ?_
    rw [HV.out]
    rintro e w1 ⟨rfl, hb1⟩
    have T1 := Lib.hid (b_step (Below.refl _ _) hb1)
    clear hb1
    go_wp2
    go_ret2
    rw [HR.out, HV.out]
    exact RetLB.nil _ _ T1.out

set_option maxHeartbeats 2000000 in
theorem s_times (A C : Option Addr) (xs ys : List Int) (c1 c2 : Nat) (p : Int) (w : World) (hR : RI w w.heap.size A xs) (hS : RI w w.heap.size C ys) (hlx : xs.length ≤ 1048576) (hly : ys.length ≤ 1048576) :
    Calls Try.prog 39 #[.slice A xs.length c1, .slice C ys.length c2, .int .i64 p] w (RetLB w (timesR p xs ys) (twoB p xs ys)) := by
  by_cases h : TwoP p xs ys
  · have HV := Lib.hid (twoB_t h)
    obtain ⟨ha, hc, he⟩ := h
    obtain ⟨p1, p2⟩ := primeB_bd ha.1
    obtain ⟨u1, u2⟩ := ha.val_bd
    obtain ⟨v1, v2⟩ := hc.val_bd
    have n8 := ha.2.2.1
    have m8 := hc.2.2.1
    have HPW := Lib.hid (fun j (hj : j ≤ xs.length) => pow_bd p1 p2 (show j ≤ 8 by omega))
    have HDX := Lib.hid ha.digits
    have HDY := Lib.hid hc.digits
    have HR := Lib.hid (show timesR p xs ys = plc p xs.length ((val p xs * val p ys) % p ^ xs.length) by unfold timesR; rw [HV.out]; rfl)
    obtain ⟨u, hu⟩ : ∃ u, u = val p xs := ⟨_, rfl⟩
    obtain ⟨v, hv⟩ : ∃ v, v = val p ys := ⟨_, rfl⟩
    obtain ⟨M, hM⟩ : ∃ M, M = p ^ xs.length := ⟨_, rfl⟩
    have hM1 := (pow_bd p1 p2 n8)
    rw [← hM] at hM1
    rw [← hu, ← hv, ← hM] at HR
    rw [← hu] at u1 u2
    rw [← hv] at v1 v2
    obtain ⟨M1, M2⟩ := hM1
    have q0 : 0 ≤ u * v := Int.mul_nonneg u1 v1
    have q1 : u * v ≤ 815730720 * 815730720 := Int.mul_le_mul u2 v2 v1 (by omega)
    have z1 : 0 ≤ (u * v) % M := Int.emod_nonneg _ (by omega)
    have z2 : (u * v) % M < M := Int.emod_lt_of_pos _ (by omega)
    have HU := Lib.hid hu
    have HVV := Lib.hid hv
    have HMM := Lib.hid hM
    clear ha hc he hu hv hM
    go_enter Try.func39, Try.ntmps39
    go_wp2_with fail
    refine (s_two A C xs ys c1 c2 p _ hR hS (by omega) (by omega)).mono ?_
    rw [HV.out]
    rintro e w1 ⟨rfl, hb1⟩
    have hR2 := (hR.below hb1).more hb1.size
    have hS2 := (hS.below hb1).more hb1.size
    have T2 := b_step (Below.refl _ _) hb1
    clear hb1 hR hS
    go_wp2_with fail
    refine (s_power p xs.length _ (by omega) (by omega) fun j hj => by have := (HPW.out j hj).2; omega).mono ?_
    rw [← HMM.out]
    rintro e w3 ⟨rfl, rfl⟩
    go_wp2_with fail
    refine (s_l02Value A xs c1 p _ hR2 p1 (by omega) n8 HDX.out).mono ?_
    rw [← HU.out]
    rintro e w3 ⟨rfl, rfl⟩
    go_wp2_with fail
    refine (s_l02Value C ys c2 p _ hS2 p1 (by omega) m8 HDY.out).mono ?_
    rw [← HVV.out]
    rintro e w3 ⟨rfl, rfl⟩
    go_wp2_with fail
    refine (s_digits _ p xs.length _ (by omega) (by omega) p1 (by omega) (by omega)).mono ?_
    intro e w4 h4
    obtain ⟨A4, c4, rfl, hO, hb4⟩ := h4.toLB T2
    clear h4 T2 z1 z2
    go_wp2
    go_ret2
    rw [HR.out, HV.out]
    exact ⟨A4, c4, rfl, hO, hb4⟩
  · have HV := Lib.hid (twoB_f h)
    have HR := Lib.hid (show timesR p xs ys = [] by unfold timesR; rw [HV.out]; rfl)
    clear h
    go_enter Try.func39, Try.ntmps39
    go_wp2_with fail
    refine (s_two A C xs ys c1 c2 p _ hR hS (by omega) (by omega)).mono ?_
    rw [HV.out]
    rintro e w1 ⟨rfl, hb1⟩
    have T1 := Lib.hid (b_step (Below.refl _ _) hb1)
    clear hb1
    go_wp2
    go_ret2
    rw [HR.out, HV.out]
    exact RetLB.nil _ _ T1.out
end Go.Proofs.Ytjdfpodmjpkfpaa
