/- Contracts of PadicAdd (program). Conditions: lengths of at most 2^20. -/
import Derived.Test.YtjdfpodmjpkfpaaPadOps
namespace Go.Proofs.Ytjdfpodmjpkfpaa
open Go.RowKit
set_option linter.unusedVariables false

theorem i_add_of (x y : Int) (w : World) (hx : 0 ≤ x) (hx2 : x ≤ 815730720) (hy : 0 ≤ y) (hy2 : y ≤ 815730720) :
    Calls Try.prog 51 #[.int .i64 x, .int .i64 y] w fun e w' => e = .returned (.int .i64 (x + y)) ∧ w = w' := by
  have q0 : 0 ≤ x * y := Int.mul_nonneg hx hy
  have q1 : x * y ≤ 815730720 * 815730720 := Int.mul_le_mul hx2 hy2 hy (by omega)
  go_enter Try.func51, Try.ntmps51
  go_wp2
  go_ret
  exact ⟨rfl, rfl⟩

set_option maxHeartbeats 2000000 in
theorem i_add (A C : Option Addr) (xs ys : List Int) (c1 c2 : Nat) (p : Int) (w : World) (hR : RI w w.heap.size A xs) (hS : RI w w.heap.size C ys) (hlx : xs.length ≤ 1048576) (hly : ys.length ≤ 1048576) :
    Calls Try.prog 22 #[.slice A xs.length c1, .slice C ys.length c2, .int .i64 p] w (RetLB w (addR p xs ys) (twoB p xs ys)) := by
  have hmf : ∀ (fn : Fn) (first cap : Array Value) (w : World), (Instr.makeFunc fn first cap).run Try.prog w = .ok (.func fn first cap) w := fun _ _ _ _ => rfl
  by_cases ha : PadP p xs
  · have HA := Lib.hid (padB_t ha)
    by_cases hc : PadP p ys
    · have HC := Lib.hid (padB_t hc)
      by_cases he : xs.length = ys.length
      · have HV := Lib.hid (twoB_t ⟨ha, hc, he⟩)
        have HR := Lib.hid (show addR p xs ys = plc p xs.length ((val p xs + val p ys) % p ^ xs.length) by unfold addR; rw [HV.out]; rfl)
        obtain ⟨p1, p2⟩ := primeB_bd ha.1
        obtain ⟨u1, u2⟩ := ha.val_bd
        obtain ⟨v1, v2⟩ := hc.val_bd
        have n8 := ha.2.2.1
        have m8 := hc.2.2.1
        have HPW := Lib.hid (fun j (hj : j ≤ xs.length) => pow_bd p1 p2 (show j ≤ 8 by omega))
        have HDX := Lib.hid ha.digits
        have HDY := Lib.hid hc.digits
        have HE := Lib.hid he
        obtain ⟨u, hu⟩ : ∃ u, u = val p xs := ⟨_, rfl⟩
        obtain ⟨v, hv⟩ : ∃ v, v = val p ys := ⟨_, rfl⟩
        obtain ⟨M, hM⟩ : ∃ M, M = p ^ xs.length := ⟨_, rfl⟩
        have hM1 := (pow_bd p1 p2 n8)
        rw [← hM] at hM1 HR
        rw [← hu] at u1 u2
        rw [← hv] at v1 v2
        rw [← hu, ← hv] at HR
        obtain ⟨M1, M2⟩ := hM1
        have q0 : 0 ≤ u * v := Int.mul_nonneg u1 v1
        have q1 : u * v ≤ 815730720 * 815730720 := Int.mul_le_mul u2 v2 v1 (by omega)
        have HU := Lib.hid hu
        have HVV := Lib.hid hv
        have HMM := Lib.hid hM
        clear ha hc he hu hv hM
        go_enter Try.func22, Try.ntmps22
        go_wp2_with (first | (go_at_call 50; go_in))
        refine (i_padOk A xs c1 p _ hR (by omega)).mono ?_
        rw [HA.out]
        rintro e w1 ⟨rfl, hb1⟩
        have hR1 := hR.below hb1
        have hS1 := hS.below hb1
        have T1 := b_step (Below.refl _ _) hb1
        have s1 := hb1.size
        clear hb1
        go_wp2_with fail
        refine (i_padOk C ys c2 p _ (hS1.more s1) (by omega)).mono ?_
        rw [HC.out]
        rintro e w2 ⟨rfl, hb2⟩
        have hR2 := (hR1.below (hb2.mono s1)).more (Nat.le_trans s1 hb2.size)
        have hS2 := (hS1.below (hb2.mono s1)).more (Nat.le_trans s1 hb2.size)
        have T2 := b_step T1 hb2
        clear hb2 hR1 hS1 T1 hR hS
        have hne : ((xs.length : Int) != (ys.length : Int)) = false := by simp [HE.out]
        go_wp2_with fail
        refine (i_power p xs.length _ (by omega) (by omega) fun j hj => by have := (HPW.out j hj).2; omega).mono ?_
        rw [← HMM.out]
        rintro e w3 ⟨rfl, rfl⟩
        go_wp2_with fail
        refine (i_valueOf A xs c1 p _ hR2 p1 (by omega) (by omega) HDX.out).mono ?_
        rw [← HU.out]
        rintro e w3 ⟨rfl, rfl⟩
        go_wp2_with fail
        refine (i_valueOf C ys c2 p _ hS2 p1 (by omega) (by omega) HDY.out).mono ?_
        rw [← HVV.out]
        rintro e w3 ⟨rfl, rfl⟩
        go_wp2_with fail
        refine (i_add_of _ _ _ (by assumption) (by assumption) (by assumption) (by assumption)).mono ?_
        rintro e w3 ⟨rfl, rfl⟩
        go_wp2_with fail
        refine (i_mod _ _ _ M1 (by omega)).mono ?_
        rintro e w3 ⟨rfl, rfl⟩
        have z1 : 0 ≤ (u + v) % M := Int.emod_nonneg _ (by omega)
        have z2 : (u + v) % M < M := Int.emod_lt_of_pos _ (by omega)
        go_wp2_with fail
        refine (i_placed _ p xs.length _ z1 (by omega) p1 (by omega) (by omega)).mono ?_
        intro e w4 h4
        obtain ⟨A4, c4, rfl, hO, hb4⟩ := h4.toLB T2
        clear h4 T2 z1 z2
        go_wp2
        go_ret2
        rw [HR.out, HV.out]
        exact ⟨A4, c4, rfl, hO, hb4⟩
      · have HV := Lib.hid (twoB_f (p := p) (xs := xs) (ys := ys) fun hh => he hh.2.2)
        have HR := Lib.hid (show addR p xs ys = [] by unfold addR; rw [HV.out]; rfl)
        have hne : ((xs.length : Int) != (ys.length : Int)) = true := by simp; omega
        clear ha hc he
        go_enter Try.func22, Try.ntmps22
        go_wp2_with (first | (go_at_call 50; go_in))
        refine (i_padOk A xs c1 p _ hR (by omega)).mono ?_
        rw [HA.out]
        rintro e w1 ⟨rfl, hb1⟩
        have hS1 := hS.below hb1
        have T1 := b_step (Below.refl _ _) hb1
        have s1 := hb1.size
        clear hb1
        go_wp2_with fail
        refine (i_padOk C ys c2 p _ (hS1.more s1) (by omega)).mono ?_
        rw [HC.out]
        rintro e w2 ⟨rfl, hb2⟩
        have T2 := Lib.hid (b_step T1 hb2)
        clear hb2 T1
        go_wp2
        go_ret2
        rw [HR.out, HV.out]
        exact RetLB.nil _ _ T2.out
    · have HV := Lib.hid (twoB_f (p := p) (xs := xs) (ys := ys) fun hh => hc hh.2.1)
      have HR := Lib.hid (show addR p xs ys = [] by unfold addR; rw [HV.out]; rfl)
      have HC := Lib.hid (padB_f hc)
      clear ha hc
      go_enter Try.func22, Try.ntmps22
      go_wp2_with (first | (go_at_call 50; go_in))
      refine (i_padOk A xs c1 p _ hR (by omega)).mono ?_
      rw [HA.out]
      rintro e w1 ⟨rfl, hb1⟩
      have hS1 := hS.below hb1
      have T1 := b_step (Below.refl _ _) hb1
      have s1 := hb1.size
      clear hb1
      go_wp2_with fail
      refine (i_padOk C ys c2 p _ (hS1.more s1) (by omega)).mono ?_
      rw [HC.out]
      rintro e w2 ⟨rfl, hb2⟩
      have T2 := Lib.hid (b_step T1 hb2)
      clear hb2 T1
      go_wp2
      go_ret2
      rw [HR.out, HV.out]
      exact RetLB.nil _ _ T2.out
  · have HV := Lib.hid (twoB_f (p := p) (xs := xs) (ys := ys) fun hh => ha hh.1)
    have HR := Lib.hid (show addR p xs ys = [] by unfold addR; rw [HV.out]; rfl)
    have HA := Lib.hid (padB_f ha)
    clear ha
    go_enter Try.func22, Try.ntmps22
    go_wp2_with (first | (go_at_call 50; go_in))
    refine (i_padOk A xs c1 p _ hR (by omega)).mono ?_
    rw [HA.out]
    rintro e w1 ⟨rfl, hb1⟩
    have T1 := Lib.hid (b_step (Below.refl _ _) hb1)
    clear hb1
    go_wp2
    go_ret2
    rw [HR.out, HV.out]
    exact RetLB.nil _ _ T1.out
end Go.Proofs.Ytjdfpodmjpkfpaa
