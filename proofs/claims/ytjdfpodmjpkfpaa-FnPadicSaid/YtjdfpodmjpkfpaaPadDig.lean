/- Contracts of PadicDigits (program and reference). Conditions: none. -/
import Derived.Test.YtjdfpodmjpkfpaaPadUnit
import Derived.Test.YtjdfpodmjpkfpaaInv
import Derived.Test.YtjdfpodmjpkfpaaIn
namespace Go.Proofs.Ytjdfpodmjpkfpaa
open Go.RowKit
set_option linter.unusedVariables false

set_option maxHeartbeats 2000000 in
theorem i_pdig (a c p k : Int) (w : World)  :
    Calls Try.prog 30 #[.int .i64 a, .int .i64 c, .int .i64 p, .int .i64 k] w (RetLB w (pdR p k a c) (pdB p k a c)) := by
  by_cases q0 : primeB p = true
  · skip
    by_cases q1 : 1 ≤ k ∧ k ≤ 8
    · skip
      by_cases q2 : -1000000 ≤ a ∧ a ≤ 1000000
      · skip
        by_cases q3 : -1000000 ≤ c ∧ c ≤ 1000000
        · skip
          by_cases q4 : c.tmod p ≠ 0
          · skip
            have hpd : PdP p k a c := ⟨q0, q1.1, q1.2, q2.1, q2.2, q3.1, q3.2, q4⟩
            have HB := Lib.hid (pdB_t hpd)
            have HR := Lib.hid (show pdR p k a c = plc p k.toNat (a % p ^ k.toNat * inv (c % p ^ k.toNat) (p ^ k.toNat) % p ^ k.toNat) by unfold pdR; rw [HB.out]; rfl)
            have HPR := Lib.hid q0
            obtain ⟨p1, p2⟩ := primeB_bd q0
            obtain ⟨l1, m1⟩ := q1
            obtain ⟨l2, m2⟩ := q2
            obtain ⟨l3, m3⟩ := q3
            have hz : (c.tmod p == 0) = false := by simpa using q4
            obtain ⟨z1, z2⟩ := hpd.inv_bd
            obtain ⟨K, rfl⟩ := Int.eq_ofNat_of_zero_le (show 0 ≤ k by omega)
            rw [Int.toNat_natCast] at HR z1 z2
            have HPW := Lib.hid (fun j (hj : j ≤ K) => pow_bd p1 p2 (show j ≤ 8 by omega))
            have hM1 := (pow_bd p1 p2 (show K ≤ 8 by omega))
            obtain ⟨M, hM⟩ : ∃ M, M = p ^ K := ⟨_, rfl⟩
            rw [← hM] at HR z1 z2 hM1
            obtain ⟨M1, M2⟩ := hM1
            have a1 := Int.emod_nonneg a (show M ≠ 0 by omega)
            have a2 := Int.emod_lt_of_pos a (show 0 < M by omega)
            have c1 := Int.emod_nonneg c (show M ≠ 0 by omega)
            have c2 := Int.emod_lt_of_pos c (show 0 < M by omega)
            obtain ⟨I, hI⟩ : ∃ I, I = inv (c % M) M := ⟨_, rfl⟩
            rw [← hI] at HR z1 z2
            obtain ⟨X, hX⟩ : ∃ X, X = a % M := ⟨_, rfl⟩
            rw [← hX] at HR a1 a2
            have b0 : 0 ≤ X * I := Int.mul_nonneg a1 z1
            have b1 : X * I ≤ 815730720 * 815730720 := Int.mul_le_mul (by omega) (by omega) z1 (by omega)
            have d1 := Int.emod_nonneg (X * I) (show M ≠ 0 by omega)
            have d2 := Int.emod_lt_of_pos (X * I) (show 0 < M by omega)
            have HI := Lib.hid hI
            have HX := Lib.hid hX
            have HMM := Lib.hid hM
            clear q0 q4 hpd hI hX hM
            go_enter Try.func30, Try.ntmps30
            go_wp2_with fail
            refine (i_prime p _).mono ?_
            rw [HPR.out]
            rintro e w1 ⟨rfl, hb1⟩
            have T1 := b_step (Below.refl _ _) hb1
            clear hb1
            go_wp2_with (first | (go_at_call 45; refine (i_in_t _ _ _ _ ?_ ?_).mono ?_; omega; omega; rintro e w1 ⟨rfl, rfl⟩) | (go_at_call 45; refine (i_in_f _ _ _ _ ?_).mono ?_; omega; rintro e w1 ⟨rfl, rfl⟩))
            refine (i_power p K _ (by omega) (by omega) fun j hj => by have := (HPW.out j hj).2; omega).mono ?_
            rw [← HMM.out]
            rintro e w3 ⟨rfl, rfl⟩
            go_wp2_with fail
            refine (i_mod a M _ M1 (by omega)).mono ?_
            rw [← HX.out]
            rintro e w3 ⟨rfl, rfl⟩
            go_wp2_with fail
            refine (i_mod c M _ M1 (by omega)).mono ?_
            rintro e w3 ⟨rfl, rfl⟩
            go_wp2_with fail
            refine (i_inv _ M _ c1 M1 (by omega)).mono ?_
            rw [← HI.out]
            rintro e w3 ⟨rfl, hb3⟩
            have T1 := b_step T1 hb3
            clear hb3
            go_wp2_with fail
            refine (i_placed _ p K _ d1 (by omega) p1 (by omega) (by omega)).mono ?_
            intro e w4 h4
            obtain ⟨A4, c4, rfl, hO, hb4⟩ := h4.toLB T1
            clear h4 T1
            go_wp2
            go_ret2
            rw [HR.out, HB.out]
            exact ⟨A4, c4, rfl, hO, hb4⟩
          · skip
            have HB := Lib.hid (pdB_f (p := p) (k := k) (a := a) (c := c) fun hh => q4 hh.2.2.2.2.2.2.2)
            have HR := Lib.hid (show pdR p k a c = [] by unfold pdR; rw [HB.out]; rfl)
            have HPR := Lib.hid q0
            obtain ⟨p1, p2⟩ := primeB_bd q0
            obtain ⟨l1, m1⟩ := q1
            obtain ⟨l2, m2⟩ := q2
            obtain ⟨l3, m3⟩ := q3
            have hz : (c.tmod p == 0) = true := by simpa using q4
            clear q0 q4
            go_enter Try.func30, Try.ntmps30
            go_wp2_with fail
            refine (i_prime p _).mono ?_
            rw [HPR.out]
            rintro e w1 ⟨rfl, hb1⟩
            have T1 := b_step (Below.refl _ _) hb1
            clear hb1
            go_wp2_with (first | (go_at_call 45; refine (i_in_t _ _ _ _ ?_ ?_).mono ?_; omega; omega; rintro e w1 ⟨rfl, rfl⟩) | (go_at_call 45; refine (i_in_f _ _ _ _ ?_).mono ?_; omega; rintro e w1 ⟨rfl, rfl⟩))
            go_ret2
            rw [HR.out, HB.out]
            exact RetLB.nil _ _ T1
        · skip
          have HB := Lib.hid (pdB_f (p := p) (k := k) (a := a) (c := c) fun hh => q3 ⟨hh.2.2.2.2.2.1, hh.2.2.2.2.2.2.1⟩)
          have HR := Lib.hid (show pdR p k a c = [] by unfold pdR; rw [HB.out]; rfl)
          have HPR := Lib.hid q0
          obtain ⟨p1, p2⟩ := primeB_bd q0
          obtain ⟨l1, m1⟩ := q1
          obtain ⟨l2, m2⟩ := q2
          have r3 : c < -1000000 ∨ 1000000 < c := by omega
          clear q0 q3
          go_enter Try.func30, Try.ntmps30
          go_wp2_with fail
          refine (i_prime p _).mono ?_
          rw [HPR.out]
          rintro e w1 ⟨rfl, hb1⟩
          have T1 := b_step (Below.refl _ _) hb1
          clear hb1
          go_wp2_with (first | (go_at_call 45; refine (i_in_t _ _ _ _ ?_ ?_).mono ?_; omega; omega; rintro e w1 ⟨rfl, rfl⟩) | (go_at_call 45; refine (i_in_f _ _ _ _ ?_).mono ?_; omega; rintro e w1 ⟨rfl, rfl⟩))
          go_ret2
          rw [HR.out, HB.out]
          exact RetLB.nil _ _ T1
      · skip
        have HB := Lib.hid (pdB_f (p := p) (k := k) (a := a) (c := c) fun hh => q2 ⟨hh.2.2.2.1, hh.2.2.2.2.1⟩)
        have HR := Lib.hid (show pdR p k a c = [] by unfold pdR; rw [HB.out]; rfl)
        have HPR := Lib.hid q0
        obtain ⟨p1, p2⟩ := primeB_bd q0
        obtain ⟨l1, m1⟩ := q1
        have r2 : a < -1000000 ∨ 1000000 < a := by omega
        clear q0 q2
        go_enter Try.func30, Try.ntmps30
        go_wp2_with fail
        refine (i_prime p _).mono ?_
        rw [HPR.out]
        rintro e w1 ⟨rfl, hb1⟩
        have T1 := b_step (Below.refl _ _) hb1
        clear hb1
        go_wp2_with (first | (go_at_call 45; refine (i_in_t _ _ _ _ ?_ ?_).mono ?_; omega; omega; rintro e w1 ⟨rfl, rfl⟩) | (go_at_call 45; refine (i_in_f _ _ _ _ ?_).mono ?_; omega; rintro e w1 ⟨rfl, rfl⟩))
        go_ret2
        rw [HR.out, HB.out]
        exact RetLB.nil _ _ T1
    · skip
      have HB := Lib.hid (pdB_f (p := p) (k := k) (a := a) (c := c) fun hh => q1 ⟨hh.2.1, hh.2.2.1⟩)
      have HR := Lib.hid (show pdR p k a c = [] by unfold pdR; rw [HB.out]; rfl)
      have HPR := Lib.hid q0
      obtain ⟨p1, p2⟩ := primeB_bd q0
      have r1 : k < 1 ∨ 8 < k := by omega
      clear q0 q1
      go_enter Try.func30, Try.ntmps30
      go_wp2_with fail
      refine (i_prime p _).mono ?_
      rw [HPR.out]
      rintro e w1 ⟨rfl, hb1⟩
      have T1 := b_step (Below.refl _ _) hb1
      clear hb1
      go_wp2_with (first | (go_at_call 45; refine (i_in_t _ _ _ _ ?_ ?_).mono ?_; omega; omega; rintro e w1 ⟨rfl, rfl⟩) | (go_at_call 45; refine (i_in_f _ _ _ _ ?_).mono ?_; omega; rintro e w1 ⟨rfl, rfl⟩))
      go_ret2
      rw [HR.out, HB.out]
      exact RetLB.nil _ _ T1
  · skip
    have HB := Lib.hid (pdB_f (p := p) (k := k) (a := a) (c := c) fun hh => q0 hh.1)
    have HR := Lib.hid (show pdR p k a c = [] by unfold pdR; rw [HB.out]; rfl)
    have HPR := Lib.hid (show primeB p = false by simpa using q0)
    clear q0
    go_enter Try.func30, Try.ntmps30
    go_wp2_with fail
    refine (i_prime p _).mono ?_
    rw [HPR.out]
    rintro e w1 ⟨rfl, hb1⟩
    have T1 := b_step (Below.refl _ _) hb1
    clear hb1
    go_wp2
    go_ret2
    rw [HR.out, HB.out]
    exact RetLB.nil _ _ T1

set_option maxHeartbeats 2000000 in
theorem s_pdig (a c p k : Int) (w : World)  :
    Calls Try.prog 33 #[.int .i64 a, .int .i64 c, .int .i64 p, .int .i64 k] w (RetLB w (pdR p k a c) (pdB p k a c)) := by
  by_cases q0 : primeB p = true
  · skip
    by_cases q1 : 1 ≤ k ∧ k ≤ 8
    · skip
      by_cases q2 : -1000000 ≤ a ∧ a ≤ 1000000
      · skip
        by_cases q3 : -1000000 ≤ c ∧ c ≤ 1000000
        · skip
          by_cases q4 : c.tmod p ≠ 0
          · skip
            have hpd : PdP p k a c := ⟨q0, q1.1, q1.2, q2.1, q2.2, q3.1, q3.2, q4⟩
            have HB := Lib.hid (pdB_t hpd)
            have HR := Lib.hid (show pdR p k a c = plc p k.toNat (a % p ^ k.toNat * inv (c % p ^ k.toNat) (p ^ k.toNat) % p ^ k.toNat) by unfold pdR; rw [HB.out]; rfl)
            have HPR := Lib.hid q0
            obtain ⟨p1, p2⟩ := primeB_bd q0
            obtain ⟨l1, m1⟩ := q1
            obtain ⟨l2, m2⟩ := q2
            obtain ⟨l3, m3⟩ := q3
            have hz : (c.tmod p == 0) = false := by simpa using q4
            obtain ⟨z1, z2⟩ := hpd.inv_bd
            obtain ⟨K, rfl⟩ := Int.eq_ofNat_of_zero_le (show 0 ≤ k by omega)
            rw [Int.toNat_natCast] at HR z1 z2
            have HPW := Lib.hid (fun j (hj : j ≤ K) => pow_bd p1 p2 (show j ≤ 8 by omega))
            have hM1 := (pow_bd p1 p2 (show K ≤ 8 by omega))
            obtain ⟨M, hM⟩ : ∃ M, M = p ^ K := ⟨_, rfl⟩
            rw [← hM] at HR z1 z2 hM1
            obtain ⟨M1, M2⟩ := hM1
            have a1 := Int.emod_nonneg a (show M ≠ 0 by omega)
            have a2 := Int.emod_lt_of_pos a (show 0 < M by omega)
            have c1 := Int.emod_nonneg c (show M ≠ 0 by omega)
            have c2 := Int.emod_lt_of_pos c (show 0 < M by omega)
            obtain ⟨I, hI⟩ : ∃ I, I = inv (c % M) M := ⟨_, rfl⟩
            rw [← hI] at HR z1 z2
            obtain ⟨X, hX⟩ : ∃ X, X = a % M := ⟨_, rfl⟩
            rw [← hX] at HR a1 a2
            have b0 : 0 ≤ X * I := Int.mul_nonneg a1 z1
            have b1 : X * I ≤ 815730720 * 815730720 := Int.mul_le_mul (by omega) (by omega) z1 (by omega)
            have d1 := Int.emod_nonneg (X * I) (show M ≠ 0 by omega)
            have d2 := Int.emod_lt_of_pos (X * I) (show 0 < M by omega)
            have HI := Lib.hid hI
            have HX := Lib.hid hX
            have HMM := Lib.hid hM
            clear q0 q4 hpd hI hX hM
            go_enter Try.func33, Try.ntmps33
            go_wp2_with fail
            refine (s_prime p _).mono ?_
            rw [HPR.out]
            rintro e w1 ⟨rfl, rfl⟩
            have T1 := Below.refl w.heap.size w
            go_wp2_with (first | (go_at_call 43; refine (s_in_t _ _ _ _ ?_ ?_).mono ?_; omega; omega; rintro e w1 ⟨rfl, rfl⟩) | (go_at_call 43; refine (s_in_f _ _ _ _ ?_).mono ?_; omega; rintro e w1 ⟨rfl, rfl⟩))
            refine (s_power p K _ (by omega) (by omega) fun j hj => by have := (HPW.out j hj).2; omega).mono ?_
            rw [← HMM.out]
            rintro e w3 ⟨rfl, rfl⟩
            go_wp2_with (first | (go_at_call 62; go_in))
            refine (s_mod a M _ M1 (by omega)).mono ?_
            rw [← HX.out]
            rintro e w3 ⟨rfl, rfl⟩
            go_wp2_with fail
            refine (s_mod c M _ M1 (by omega)).mono ?_
            rintro e w3 ⟨rfl, rfl⟩
            go_wp2_with fail
            refine (s_inv _ M _ c1 M1 (by omega)).mono ?_
            rw [← HI.out]
            rintro e w3 ⟨rfl, rfl⟩
            go_wp2_with fail
            refine (s_digits _ p K _ d1 (by omega) p1 (by omega) (by omega)).mono ?_
            intro e w4 h4
            obtain ⟨A4, c4, rfl, hO, hb4⟩ := h4.toLB T1
            clear h4 T1
            go_wp2
            go_ret2
            rw [HR.out, HB.out]
            exact ⟨A4, c4, rfl, hO, hb4⟩
          · skip
            have HB := Lib.hid (pdB_f (p := p) (k := k) (a := a) (c := c) fun hh => q4 hh.2.2.2.2.2.2.2)
            have HR := Lib.hid (show pdR p k a c = [] by unfold pdR; rw [HB.out]; rfl)
            have HPR := Lib.hid q0
            obtain ⟨p1, p2⟩ := primeB_bd q0
            obtain ⟨l1, m1⟩ := q1
            obtain ⟨l2, m2⟩ := q2
            obtain ⟨l3, m3⟩ := q3
            have hz : (c.tmod p == 0) = true := by simpa using q4
            clear q0 q4
            go_enter Try.func33, Try.ntmps33
            go_wp2_with fail
            refine (s_prime p _).mono ?_
            rw [HPR.out]
            rintro e w1 ⟨rfl, rfl⟩
            have T1 := Below.refl w.heap.size w
            go_wp2_with (first | (go_at_call 43; refine (s_in_t _ _ _ _ ?_ ?_).mono ?_; omega; omega; rintro e w1 ⟨rfl, rfl⟩) | (go_at_call 43; refine (s_in_f _ _ _ _ ?_).mono ?_; omega; rintro e w1 ⟨rfl, rfl⟩))
            go_ret2
            rw [HR.out, HB.out]
            exact RetLB.nil _ _ T1
        · skip
          have HB := Lib.hid (pdB_f (p := p) (k := k) (a := a) (c := c) fun hh => q3 ⟨hh.2.2.2.2.2.1, hh.2.2.2.2.2.2.1⟩)
          have HR := Lib.hid (show pdR p k a c = [] by unfold pdR; rw [HB.out]; rfl)
          have HPR := Lib.hid q0
          obtain ⟨p1, p2⟩ := primeB_bd q0
          obtain ⟨l1, m1⟩ := q1
          obtain ⟨l2, m2⟩ := q2
          have r3 : c < -1000000 ∨ 1000000 < c := by omega
          clear q0 q3
          go_enter Try.func33, Try.ntmps33
          go_wp2_with fail
          refine (s_prime p _).mono ?_
          rw [HPR.out]
          rintro e w1 ⟨rfl, rfl⟩
          have T1 := Below.refl w.heap.size w
          go_wp2_with (first | (go_at_call 43; refine (s_in_t _ _ _ _ ?_ ?_).mono ?_; omega; omega; rintro e w1 ⟨rfl, rfl⟩) | (go_at_call 43; refine (s_in_f _ _ _ _ ?_).mono ?_; omega; rintro e w1 ⟨rfl, rfl⟩))
          go_ret2
          rw [HR.out, HB.out]
          exact RetLB.nil _ _ T1
      · skip
        have HB := Lib.hid (pdB_f (p := p) (k := k) (a := a) (c := c) fun hh => q2 ⟨hh.2.2.2.1, hh.2.2.2.2.1⟩)
        have HR := Lib.hid (show pdR p k a c = [] by unfold pdR; rw [HB.out]; rfl)
        have HPR := Lib.hid q0
        obtain ⟨p1, p2⟩ := primeB_bd q0
        obtain ⟨l1, m1⟩ := q1
        have r2 : a < -1000000 ∨ 1000000 < a := by omega
        clear q0 q2
        go_enter Try.func33, Try.ntmps33
        go_wp2_with fail
        refine (s_prime p _).mono ?_
        rw [HPR.out]
        rintro e w1 ⟨rfl, rfl⟩
        have T1 := Below.refl w.heap.size w
        go_wp2_with (first | (go_at_call 43; refine (s_in_t _ _ _ _ ?_ ?_).mono ?_; omega; omega; rintro e w1 ⟨rfl, rfl⟩) | (go_at_call 43; refine (s_in_f _ _ _ _ ?_).mono ?_; omega; rintro e w1 ⟨rfl, rfl⟩))
        go_ret2
        rw [HR.out, HB.out]
        exact RetLB.nil _ _ T1
    · skip
      have HB := Lib.hid (pdB_f (p := p) (k := k) (a := a) (c := c) fun hh => q1 ⟨hh.2.1, hh.2.2.1⟩)
      have HR := Lib.hid (show pdR p k a c = [] by unfold pdR; rw [HB.out]; rfl)
      have HPR := Lib.hid q0
      obtain ⟨p1, p2⟩ := primeB_bd q0
      have r1 : k < 1 ∨ 8 < k := by omega
      clear q0 q1
      go_enter Try.func33, Try.ntmps33
      go_wp2_with fail
      refine (s_prime p _).mono ?_
      rw [HPR.out]
      rintro e w1 ⟨rfl, rfl⟩
      have T1 := Below.refl w.heap.size w
      go_wp2_with (first | (go_at_call 43; refine (s_in_t _ _ _ _ ?_ ?_).mono ?_; omega; omega; rintro e w1 ⟨rfl, rfl⟩) | (go_at_call 43; refine (s_in_f _ _ _ _ ?_).mono ?_; omega; rintro e w1 ⟨rfl, rfl⟩))
      go_ret2
      rw [HR.out, HB.out]
      exact RetLB.nil _ _ T1
  · skip
    have HB := Lib.hid (pdB_f (p := p) (k := k) (a := a) (c := c) fun hh => q0 hh.1)
    have HR := Lib.hid (show pdR p k a c = [] by unfold pdR; rw [HB.out]; rfl)
    have HPR := Lib.hid (show primeB p = false by simpa using q0)
    clear q0
    go_enter Try.func33, Try.ntmps33
    go_wp2_with fail
    refine (s_prime p _).mono ?_
    rw [HPR.out]
    rintro e w1 ⟨rfl, rfl⟩
    have T1 := Below.refl w.heap.size w
    go_wp2
    go_ret2
    rw [HR.out, HB.out]
    exact RetLB.nil _ _ T1
end Go.Proofs.Ytjdfpodmjpkfpaa
