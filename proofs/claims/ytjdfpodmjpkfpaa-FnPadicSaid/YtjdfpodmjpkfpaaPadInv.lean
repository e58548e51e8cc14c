/- Contracts of PadicInverse (program and reference). Conditions: lengths of at most 2^20. -/
import Derived.Test.YtjdfpodmjpkfpaaPadUnit
import Derived.Test.YtjdfpodmjpkfpaaInv
namespace Go.Proofs.Ytjdfpodmjpkfpaa
open Go.RowKit
set_option linter.unusedVariables false

set_option maxHeartbeats 2000000 in
theorem i_pinv (A : Option Addr) (xs : List Int) (c1 : Nat) (p : Int) (w : World) (hR : RI w w.heap.size A xs) (hlx : xs.length ≤ 1048576) :
    Calls Try.prog 28 #[.slice A xs.length c1, .int .i64 p] w (RetLB w (invR p xs) (piB p xs)) := by
  by_cases ha : PadP p xs
  · have HV := Lib.hid (padB_t ha)
    obtain ⟨p1, p2⟩ := primeB_bd ha.1
    obtain ⟨u1, u2⟩ := ha.val_bd
    have n1 := ha.2.1
    have n8 := ha.2.2.1
    obtain ⟨b0, off, hA, hb0, hc⟩ := hR.at_ (k := 0) (by omega)
    subst hA
    obtain ⟨d, hd⟩ : ∃ d, d = xs.getD 0 0 := ⟨_, rfl⟩
    rw [← hd] at hc
    have HR0 := Lib.hid hR
    clear hR
    by_cases h0 : d = 0
    · have HB := Lib.hid (piB_f (b := p) (xs := xs) fun hh => hh.2 (by rw [← hd]; exact h0))
      have HR := Lib.hid (show invR p xs = [] by unfold invR; rw [HB.out]; rfl)
      have hz : (d == 0) = true := by simp [h0]
      have hR := HR0.out
      clear ha hd h0
      go_enter Try.func28, Try.ntmps28
      go_wp2_with fail
      refine (i_padOk _ xs c1 p _ hR (by omega)).mono ?_
      rw [HV.out]
      rintro e w1 ⟨rfl, hb1⟩
      have hR1 := (hR.below hb1).more hb1.size
      have T1 := b_step (Below.refl _ _) hb1
      have hc1 : w1.cell? ⟨b0, off, none⟩ = some (.int .i64 d) := by simpa using (hb1.cell (p := ⟨b0, off + 0, none⟩) hb0).trans hc
      clear hb1 hR hc
      go_wp2
      go_ret2
      rw [HR.out, HB.out]
      exact RetLB.nil _ _ T1
    · have hpi : PiP p xs := ⟨ha, by rw [← hd]; exact h0⟩
      have HB := Lib.hid (piB_t hpi)
      have HR := Lib.hid (show invR p xs = plc p xs.length (inv (val p xs) (p ^ xs.length)) by unfold invR; rw [HB.out]; rfl)
      have hz : (d == 0) = false := by simp [h0]
      have HPW := Lib.hid (fun j (hj : j ≤ xs.length) => pow_bd p1 p2 (show j ≤ 8 by omega))
      have HDX := Lib.hid ha.digits
      obtain ⟨z1, z2⟩ := hpi.inv_bd
      obtain ⟨u, hu⟩ : ∃ u, u = val p xs := ⟨_, rfl⟩
      obtain ⟨M, hM⟩ : ∃ M, M = p ^ xs.length := ⟨_, rfl⟩
      have hM1 := (pow_bd p1 p2 n8)
      rw [← hM] at hM1
      rw [← hu, ← hM] at HR z1 z2
      rw [← hu] at u1 u2
      obtain ⟨M1, M2⟩ := hM1
      have HU := Lib.hid hu
      have HMM := Lib.hid hM
      have hR := HR0.out
      clear ha hu hM hd h0 hpi
      go_enter Try.func28, Try.ntmps28
      go_wp2_with fail
      refine (i_padOk _ xs c1 p _ hR (by omega)).mono ?_
      rw [HV.out]
      rintro e w1 ⟨rfl, hb1⟩
      have hR1 := (hR.below hb1).more hb1.size
      have T1 := b_step (Below.refl _ _) hb1
      have hc1 : w1.cell? ⟨b0, off, none⟩ = some (.int .i64 d) := by simpa using (hb1.cell (p := ⟨b0, off + 0, none⟩) hb0).trans hc
      clear hb1 hR hc
      go_wp2_with fail
      refine (i_power p xs.length _ (by omega) (by omega) fun j hj => by have := (HPW.out j hj).2; omega).mono ?_
      rw [← HMM.out]
      rintro e w3 ⟨rfl, rfl⟩
      go_wp2_with fail
      refine (i_valueOf _ xs c1 p _ hR1 p1 (by omega) (by omega) HDX.out).mono ?_
      rw [← HU.out]
      rintro e w3 ⟨rfl, rfl⟩
      go_wp2_with fail
      refine (i_inv u M _ u1 M1 (by omega)).mono ?_
      rintro e w3 ⟨rfl, hb3⟩
      have T1 := b_step T1 hb3
      clear hb3
      go_wp2_with fail
      refine (i_placed _ p xs.length _ z1 (by omega) p1 (by omega) (by omega)).mono ?_
      intro e w4 h4
      obtain ⟨A4, c4, rfl, hO, hb4⟩ := h4.toLB T1
      clear h4 T1
      go_wp2
      go_ret2
      rw [HR.out, HB.out]
      exact ⟨A4, c4, rfl, hO, hb4⟩

  · have HV := Lib.hid (padB_f ha)
    have HB := Lib.hid (piB_f (b := p) (xs := xs) fun hh => ha hh.1)
    have HR := Lib.hid (show invR p xs = [] by unfold invR; rw [HB.out]; rfl)
    clear ha
    go_enter Try.func28, Try.ntmps28
    go_wp2_with fail
    refine (i_padOk A xs c1 p _ hR (by omega)).mono ?_
    rw [HV.out]
    rintro e w1 ⟨rfl, hb1⟩
    have hR1 := (hR.below hb1).more hb1.size
    have T1 := b_step (Below.refl _ _) hb1
    clear hb1 hR
    go_wp2
    go_ret2
    rw [HR.out, HB.out]
    exact RetLB.nil _ _ T1

set_option maxHeartbeats 2000000 in
theorem s_pinv (A : Option Addr) (xs : List Int) (c1 : Nat) (p : Int) (w : World) (hR : RI w w.heap.size A xs) (hlx : xs.length ≤ 1048576) :
    Calls Try.prog 41 #[.slice A xs.length c1, .int .i64 p] w (RetLB w (invR p xs) (piB p xs)) := by
  by_cases ha : PadP p xs
  · have HV := Lib.hid (padB_t ha)
    obtain ⟨p1, p2⟩ := primeB_bd ha.1
    obtain ⟨u1, u2⟩ := ha.val_bd
    have n1 := ha.2.1
    have n8 := ha.2.2.1
    obtain ⟨b0, off, hA, hb0, hc⟩ := hR.at_ (k := 0) (by omega)
    subst hA
    obtain ⟨d, hd⟩ : ∃ d, d = xs.getD 0 0 := ⟨_, rfl⟩
    rw [← hd] at hc
    have HR0 := Lib.hid hR
    clear hR
    by_cases h0 : d = 0
    · have HB := Lib.hid (piB_f (b := p) (xs := xs) fun hh => hh.2 (by rw [← hd]; exact h0))
      have HR := Lib.hid (show invR p xs = [] by unfold invR; rw [HB.out]; rfl)
      have hz : (d == 0) = true := by simp [h0]
      have hR := HR0.out
      clear ha hd h0
      go_enter Try.func41, Try.ntmps41
      go_wp2_with fail
      refine (s_padOk _ xs c1 p _ hR (by omega)).mono ?_
      rw [HV.out]
      rintro e w1 ⟨rfl, hb1⟩
      have hR1 := (hR.below hb1).more hb1.size
      have T1 := b_step (Below.refl _ _) hb1
      have hc1 : w1.cell? ⟨b0, off, none⟩ = some (.int .i64 d) := by simpa using (hb1.cell (p := ⟨b0, off + 0, none⟩) hb0).trans hc
      clear hb1 hR hc
      go_wp2
      go_ret2
      rw [HR.out, HB.out]
      exact RetLB.nil _ _ T1
    · have hpi : PiP p xs := ⟨ha, by rw [← hd]; exact h0⟩
      have HB := Lib.hid (piB_t hpi)
      have HR := Lib.hid (show invR p xs = plc p xs.length (inv (val p xs) (p ^ xs.length)) by unfold invR; rw [HB.out]; rfl)
      have hz : (d == 0) = false := by simp [h0]
      have HPW := Lib.hid (fun j (hj : j ≤ xs.length) => pow_bd p1 p2 (show j ≤ 8 by omega))
      have HDX := Lib.hid ha.digits
      obtain ⟨z1, z2⟩ := hpi.inv_bd
      obtain ⟨u, hu⟩ : ∃ u, u = val p xs := ⟨_, rfl⟩
      obtain ⟨M, hM⟩ : ∃ M, M = p ^ xs.length := ⟨_, rfl⟩
      have hM1 := (pow_bd p1 p2 n8)
      rw [← hM] at hM1
      rw [← hu, ← hM] at HR z1 z2
      rw [← hu] at u1 u2
      obtain ⟨M1, M2⟩ := hM1
      have HU := Lib.hid hu
      have HMM := Lib.hid hM
      have hR := HR0.out
      clear ha hu hM hd h0 hpi
      go_enter Try.func41, Try.ntmps41
      go_wp2_with fail
      refine (s_padOk _ xs c1 p _ hR (by omega)).mono ?_
      rw [HV.out]
      rintro e w1 ⟨rfl, hb1⟩
      have hR1 := (hR.below hb1).more hb1.size
      have T1 := b_step (Below.refl _ _) hb1
      have hc1 : w1.cell? ⟨b0, off, none⟩ = some (.int .i64 d) := by simpa using (hb1.cell (p := ⟨b0, off + 0, none⟩) hb0).trans hc
      clear hb1 hR hc
      go_wp2_with fail
      refine (s_power p xs.length _ (by omega) (by omega) fun j hj => by have := (HPW.out j hj).2; omega).mono ?_
      rw [← HMM.out]
      rintro e w3 ⟨rfl, rfl⟩
      go_wp2_with fail
      refine (s_l02Value _ xs c1 p _ hR1 p1 (by omega) n8 HDX.out).mono ?_
      rw [← HU.out]
      rintro e w3 ⟨rfl, rfl⟩
      go_wp2_with fail
      refine (s_inv u M _ u1 M1 (by omega)).mono ?_
      rintro e w3 ⟨rfl, rfl⟩
      go_wp2_with fail
      refine (s_digits _ p xs.length _ z1 (by omega) p1 (by omega) (by omega)).mono ?_
      intro e w4 h4
      obtain ⟨A4, c4, rfl, hO, hb4⟩ := h4.toLB T1
      clear h4 T1
      go_wp2
      go_ret2
      rw [HR.out, HB.out]
      exact ⟨A4, c4, rfl, hO, hb4⟩

  · have HV := Lib.hid (padB_f ha)
    have HB := Lib.hid (piB_f (b := p) (xs := xs) fun hh => ha hh.1)
    have HR := Lib.hid (show invR p xs = [] by unfold invR; rw [HB.out]; rfl)
    clear ha
    go_enter Try.func41, Try.ntmps41
    go_wp2_with fail
    refine (s_padOk A xs c1 p _ hR (by omega)).mono ?_
    rw [HV.out]
    rintro e w1 ⟨rfl, hb1⟩
    have hR1 := (hR.below hb1).more hb1.size
    have T1 := b_step (Below.refl _ _) hb1
    clear hb1 hR
    go_wp2
    go_ret2
    rw [HR.out, HB.out]
    exact RetLB.nil _ _ T1
end Go.Proofs.Ytjdfpodmjpkfpaa
