/- Contracts of RationalOf (program and reference). Conditions: lengths of at most 2^20. -/
import Derived.Test.YtjdfpodmjpkfpaaPadSearch
import Derived.Test.YtjdfpodmjpkfpaaInv
import Derived.Test.YtjdfpodmjpkfpaaIn
namespace Go.Proofs.Ytjdfpodmjpkfpaa
open Go.RowKit
set_option linter.unusedVariables false

theorem s_gcdo (a v c : Int) (w : World) (hv : v = a ∨ v = -a) (h0 : 0 ≤ v) (h1 : v ≤ 4611686018427387904) (h2 : 0 ≤ c) (h3 : c ≤ 4611686018427387904) :
    Calls Try.prog 64 #[.int .i64 v, .int .i64 c] w fun e w' => e = .returned (.int .i64 (Int.gcd a c)) ∧ w = w' := by
  have e : Int.gcd a c = Int.gcd v c := by
    have : a.natAbs = v.natAbs := by omega
    unfold Int.gcd; rw [this]
  rw [e]
  exact s_gcd v c w h0 h1 h2 h3

set_option maxHeartbeats 4000000 in
theorem i_rat (A : Option Addr) (xs : List Int) (c1 : Nat) (p B : Int) (w : World) (hR : RI w w.heap.size A xs) (hlx : xs.length ≤ 1048576) :
    Calls Try.prog 31 #[.slice A xs.length c1, .int .i64 p, .int .i64 B] w fun e w' => e = .returned (.tuple #[.int .i64 (rA (ratO p xs B)), .int .i64 (rC (ratO p xs B)), .bool (rF (ratO p xs B))]) ∧ Below w.heap.size w w' := by
  by_cases ha : PadP p xs
  · have HV := Lib.hid (padB_t ha)
    obtain ⟨p1, p2⟩ := primeB_bd ha.1
    by_cases h2 : 1 ≤ B ∧ B ≤ 40
    · skip
      have HO := Lib.hid (ratO_t (p := p) (xs := xs) (B := B) ⟨ha, h2.1, h2.2⟩)
      obtain ⟨B1, B2⟩ := h2
      have n1 := ha.2.1
      have n8 := ha.2.2.1
      have HPW := Lib.hid (fun j (hj : j ≤ xs.length) => pow_bd p1 p2 (show j ≤ 8 by omega))
      have HDX := Lib.hid ha.digits
      obtain ⟨u1, u2⟩ := ha.val_bd
      obtain ⟨n, hn⟩ : ∃ n, n = val p xs := ⟨_, rfl⟩
      obtain ⟨M, hM⟩ : ∃ M, M = p ^ xs.length := ⟨_, rfl⟩
      have hM1 := (pow_bd p1 p2 n8)
      rw [← hM] at hM1
      rw [← hn, ← hM] at HO
      rw [← hn] at u1 u2
      obtain ⟨M1, M2⟩ := hM1
      have HU := Lib.hid hn
      have HMM := Lib.hid hM
      clear ha hn hM
      go_enter Try.func31, Try.ntmps31
      go_wp2_with fail
      refine (i_padOk _ xs c1 p _ hR (by omega)).mono ?_
      rw [HV.out]
      rintro e w1 ⟨rfl, hb1⟩
      have hR1 := (hR.below hb1).more hb1.size
      have T1 := b_step (Below.refl _ _) hb1
      have T1 := Lib.hid T1
      clear hb1 hR
      go_wp2_with (first | (go_at_call 45; refine (i_in_t _ _ _ _ ?_ ?_).mono ?_; omega; omega; rintro e w1 ⟨rfl, rfl⟩) | (go_at_call 45; refine (i_in_f _ _ _ _ ?_).mono ?_; omega; rintro e w1 ⟨rfl, rfl⟩))
      refine (i_valueOf _ xs c1 p _ hR1 p1 (by omega) (by omega) HDX.out).mono ?_
      rw [← HU.out]
      rintro e w3 ⟨rfl, rfl⟩
      clear hR1
      go_wp2_with fail
      refine (i_power p xs.length _ (by omega) (by omega) fun j hj => by have := (HPW.out j hj).2; omega).mono ?_
      rw [← HMM.out]
      rintro e w3 ⟨rfl, rfl⟩
      go_wp2
      go_loopw [11] (fun y wr => ∃ c : Int, y = .int .i64 c ∧ 1 ≤ c ∧ c ≤ B + 1 ∧ Hid (outr (ratT p n M) (2 * B + 1).toNat (-B) B.toNat 1 = outr (ratT p n M) (2 * B + 1).toNat (-B) (B + 1 - c).toNat c) ∧ Hid (Below w.heap.size w wr)) (fun y _ => (B + 1 - intOf y).toNat)
      case atStart => exact ⟨1, rfl, by omega, by omega, by unfold Hid; rw [show B + 1 - 1 = B from by omega], T1.out⟩
      case round =>
        obtain ⟨c, rfl, c0, c9, hD, hW⟩ := hrel
        by_cases hlt : c ≤ B
        · have e1 : (B + 1 - c).toNat = (B + 1 - (c + 1)).toNat + 1 := by omega
          have HD := Lib.hid (hD.out.trans (by rw [e1]))
          clear e1 hD
          have n0 : 0 ≤ c * n := Int.mul_nonneg (by omega) (by omega)
          have n9 : c * n ≤ 40 * 815730720 := Int.mul_le_mul (by omega) (by omega) (by omega) (by omega)
          have r0 := Int.emod_nonneg c (show p ≠ 0 by omega)
          go_wp2
          obtain ⟨wo, rfl⟩ : ∃ wo : World, wo = wr := ⟨_, rfl⟩
          go_loopw [12] (fun y wr => ∃ a : Int, y = .int .i64 a ∧ -B ≤ a ∧ a ≤ B + 1 ∧ Hid (inn (ratT p n M c) (2 * B + 1).toNat (-B) = inn (ratT p n M c) (B + 1 - a).toNat a) ∧ Hid (Below w.heap.size w wr)) (fun y _ => (B + 1 - intOf y).toNat)
          case atStart => exact ⟨-B, by simp, by omega, by omega, by unfold Hid; rw [show B + 1 - -B = 2 * B + 1 from by omega], hW.out⟩
          case round =>
            obtain ⟨a, rfl, a0, a9, hI, hV⟩ := hrel
            by_cases hla : a ≤ B
            · have e1 : (B + 1 - a).toNat = (B + 1 - (a + 1)).toNat + 1 := by omega
              have HI := Lib.hid (hI.out.trans (by rw [e1]))
              clear e1 hI
              by_cases q1 : c % p = 0
              · have HI2 := Lib.hid (HI.out.trans (inn_f (ratT_f fun hh => hh.1 q1)))
                have hz : (c % p != 0) = false := by simp [q1]
                clear HI q1
                go_wp2
                go_roundw
                case rel => exact ⟨a + 1, rfl, by omega, by omega, HI2.out, hV.out⟩
                case measure => simp [intOf]; omega
              · have hz : (c % p != 0) = true := by simp [q1]
                obtain ⟨g, hg⟩ : ∃ g : Int, g = Int.gcd a c := ⟨_, rfl⟩
                by_cases q2 : g = 1
                · have hz2 : (g == 1) = true := by simp [q2]
                  obtain ⟨f, hf⟩ : ∃ f : Int, f = (c * n - a) % M := ⟨_, rfl⟩
                  have HG := Lib.hid hg
                  have HF := Lib.hid hf
                  by_cases q3 : f = 0
                  · have HI2 := Lib.hid (HI.out.trans (inn_t (ratT_t ⟨q1, by rw [← hg]; exact q2, by rw [← hf]; exact q3⟩)))
                    have HOO := Lib.hid (HO.out.trans (HD.out.trans (outr_some HI2.out)))
                    have hz3 : (f == 0) = true := by simp [q3]
                    clear q1 q2 q3 hg hf HI HD HO HI2
                    go_wp2_with fail
                    refine (i_gcd a c _ (by omega) (by omega) (by omega) (by omega)).mono ?_
                    rw [← HG.out]
                    rintro e w3 ⟨rfl, hb3⟩
                    have HW3 := Lib.hid (b_step hV.out hb3)
                    clear hb3
                    go_wp2_with fail
                    refine (i_mod _ _ _ M1 (by omega)).mono ?_
                    rw [← HF.out]
                    rintro e w3 ⟨rfl, rfl⟩
                    go_wp2
                    go_ret3
                    exact ⟨by rw [HOO.out]; rfl, HW3.out⟩
                  · have HI2 := Lib.hid (HI.out.trans (inn_f (ratT_f fun hh => q3 (by rw [hf]; exact hh.2.2))))
                    have hz3 : (f == 0) = false := by simp [q3]
                    clear q1 q2 q3 hg hf HI
                    go_wp2_with fail
                    refine (i_gcd a c _ (by omega) (by omega) (by omega) (by omega)).mono ?_
                    rw [← HG.out]
                    rintro e w3 ⟨rfl, hb3⟩
                    have HW3 := Lib.hid (b_step hV.out hb3)
                    clear hb3
                    go_wp2_with fail
                    refine (i_mod _ _ _ M1 (by omega)).mono ?_
                    rw [← HF.out]
                    rintro e w3 ⟨rfl, rfl⟩
                    go_wp2
                    go_roundw
                    case rel => exact ⟨a + 1, rfl, by omega, by omega, HI2.out, HW3.out⟩
                    case measure => simp [intOf]; omega
                · have HI2 := Lib.hid (HI.out.trans (inn_f (ratT_f fun hh => q2 (by rw [hg]; exact hh.2.1))))
                  have hz2 : (g == 1) = false := by simp [q2]
                  have HG := Lib.hid hg
                  clear q1 q2 hg HI
                  go_wp2_with fail
                  refine (i_gcd a c _ (by omega) (by omega) (by omega) (by omega)).mono ?_
                  rw [← HG.out]
                  rintro e w3 ⟨rfl, hb3⟩
                  have HW3 := Lib.hid (b_step hV.out hb3)
                  clear hb3
                  go_wp2
                  go_roundw
                  case rel => exact ⟨a + 1, rfl, by omega, by omega, HI2.out, HW3.out⟩
                  case measure => simp [intOf]; omega
            · obtain rfl : a = B + 1 := by omega
              have HI2 := Lib.hid (show inn (ratT p n M c) (2 * B + 1).toNat (-B) = none from hI.out.trans (by rw [Int.sub_self]; rfl))
              have HD2 := Lib.hid (HD.out.trans (outr_none HI2.out))
              clear hI HD HI2
              go_wp2
              go_roundw
              case rel => exact ⟨c + 1, rfl, by omega, by omega, HD2.out, hV.out⟩
              case measure => simp [intOf]; omega
        · obtain rfl : c = B + 1 := by omega
          have HOO := Lib.hid (show ratO p xs B = none from HO.out.trans (hD.out.trans (by rw [Int.sub_self]; rfl)))
          clear hD HO
          go_wp2
          go_ret3
          exact ⟨by rw [HOO.out]; rfl, hW.out⟩
    · skip
      have r2 : B < 1 ∨ 40 < B := by omega
      have HO := Lib.hid (ratO_f (p := p) (xs := xs) (B := B) fun hh => h2 ⟨hh.2.1, hh.2.2⟩)
      clear ha h2
      go_enter Try.func31, Try.ntmps31
      go_wp2_with fail
      refine (i_padOk _ xs c1 p _ hR (by omega)).mono ?_
      rw [HV.out]
      rintro e w1 ⟨rfl, hb1⟩
      have hR1 := (hR.below hb1).more hb1.size
      have T1 := b_step (Below.refl _ _) hb1
      have T1 := Lib.hid T1
      clear hb1 hR hR1
      go_wp2_with (first | (go_at_call 45; refine (i_in_t _ _ _ _ ?_ ?_).mono ?_; omega; omega; rintro e w1 ⟨rfl, rfl⟩) | (go_at_call 45; refine (i_in_f _ _ _ _ ?_).mono ?_; omega; rintro e w1 ⟨rfl, rfl⟩))
      go_ret3
      exact ⟨by rw [HO.out]; rfl, T1.out⟩
  · skip
    have HV := Lib.hid (padB_f ha)
    have HO := Lib.hid (ratO_f (p := p) (xs := xs) (B := B) fun hh => ha hh.1)
    clear ha
    go_enter Try.func31, Try.ntmps31
    go_wp2_with fail
    refine (i_padOk _ xs c1 p _ hR (by omega)).mono ?_
    rw [HV.out]
    rintro e w1 ⟨rfl, hb1⟩
    have hR1 := (hR.below hb1).more hb1.size
    have T1 := b_step (Below.refl _ _) hb1
    have T1 := Lib.hid T1
    clear hb1 hR hR1
    go_wp2
    go_ret3
    exact ⟨by rw [HO.out]; rfl, T1.out⟩

set_option maxHeartbeats 4000000 in
theorem s_rat (A : Option Addr) (xs : List Int) (c1 : Nat) (p B : Int) (w : World) (hR : RI w w.heap.size A xs) (hlx : xs.length ≤ 1048576) :
    Calls Try.prog 36 #[.slice A xs.length c1, .int .i64 p, .int .i64 B] w fun e w' => e = .returned (.tuple #[.int .i64 (rA (ratO p xs B)), .int .i64 (rC (ratO p xs B)), .bool (rF (ratO p xs B))]) ∧ Below w.heap.size w w' := by
  by_cases ha : PadP p xs
  · have HV := Lib.hid (padB_t ha)
    obtain ⟨p1, p2⟩ := primeB_bd ha.1
    by_cases h2 : 1 ≤ B ∧ B ≤ 40
    · skip
      have HO := Lib.hid (ratO_t (p := p) (xs := xs) (B := B) ⟨ha, h2.1, h2.2⟩)
      obtain ⟨B1, B2⟩ := h2
      have n1 := ha.2.1
      have n8 := ha.2.2.1
      have HPW := Lib.hid (fun j (hj : j ≤ xs.length) => pow_bd p1 p2 (show j ≤ 8 by omega))
      have HDX := Lib.hid ha.digits
      obtain ⟨u1, u2⟩ := ha.val_bd
      obtain ⟨n, hn⟩ : ∃ n, n = val p xs := ⟨_, rfl⟩
      obtain ⟨M, hM⟩ : ∃ M, M = p ^ xs.length := ⟨_, rfl⟩
      have hM1 := (pow_bd p1 p2 n8)
      rw [← hM] at hM1
      rw [← hn, ← hM] at HO
      rw [← hn] at u1 u2
      obtain ⟨M1, M2⟩ := hM1
      have HU := Lib.hid hn
      have HMM := Lib.hid hM
      clear ha hn hM
      go_enter Try.func36, Try.ntmps36
      go_wp2_with fail
      refine (s_padOk _ xs c1 p _ hR (by omega)).mono ?_
      rw [HV.out]
      rintro e w1 ⟨rfl, hb1⟩
      have hR1 := (hR.below hb1).more hb1.size
      have T1 := b_step (Below.refl _ _) hb1
      have T1 := Lib.hid T1
      clear hb1 hR
      go_wp2_with (first | (go_at_call 43; refine (s_in_t _ _ _ _ ?_ ?_).mono ?_; omega; omega; rintro e w1 ⟨rfl, rfl⟩) | (go_at_call 43; refine (s_in_f _ _ _ _ ?_).mono ?_; omega; rintro e w1 ⟨rfl, rfl⟩))
      refine (s_l02Value _ xs c1 p _ hR1 p1 (by omega) n8 HDX.out).mono ?_
      rw [← HU.out]
      rintro e w3 ⟨rfl, rfl⟩
      clear hR1
      go_wp2_with fail
      refine (s_power p xs.length _ (by omega) (by omega) fun j hj => by have := (HPW.out j hj).2; omega).mono ?_
      rw [← HMM.out]
      rintro e w3 ⟨rfl, rfl⟩
      go_wp2
      go_loop [11] (fun y => ∃ c : Int, y = .int .i64 c ∧ 1 ≤ c ∧ c ≤ B + 1 ∧ Hid (outr (ratT p n M) (2 * B + 1).toNat (-B) B.toNat 1 = outr (ratT p n M) (2 * B + 1).toNat (-B) (B + 1 - c).toNat c)) (fun y => (B + 1 - intOf y).toNat)
      case atStart => exact ⟨1, rfl, by omega, by omega, by unfold Hid; rw [show B + 1 - 1 = B from by omega]⟩
      case round =>
        obtain ⟨c, rfl, c0, c9, hD⟩ := hrel
        by_cases hlt : c ≤ B
        · have e1 : (B + 1 - c).toNat = (B + 1 - (c + 1)).toNat + 1 := by omega
          have HD := Lib.hid (hD.out.trans (by rw [e1]))
          clear e1 hD
          have n0 : 0 ≤ n * c := Int.mul_nonneg (by omega) (by omega)
          have n9 : n * c ≤ 815730720 * 40 := Int.mul_le_mul (by omega) (by omega) (by omega) (by omega)
          have r0 := Int.emod_nonneg c (show p ≠ 0 by omega)
          go_wp2
          go_loop [12] (fun y => ∃ a : Int, y = .int .i64 a ∧ -B ≤ a ∧ a ≤ B + 1 ∧ Hid (inn (ratT p n M c) (2 * B + 1).toNat (-B) = inn (ratT p n M c) (B + 1 - a).toNat a)) (fun y => (B + 1 - intOf y).toNat)
          case atStart => exact ⟨-B, by simp, by omega, by omega, by unfold Hid; rw [show B + 1 - -B = 2 * B + 1 from by omega]⟩
          case round =>
            obtain ⟨a, rfl, a0, a9, hI⟩ := hrel
            by_cases hla : a ≤ B
            · have e1 : (B + 1 - a).toNat = (B + 1 - (a + 1)).toNat + 1 := by omega
              have HI := Lib.hid (hI.out.trans (by rw [e1]))
              clear e1 hI
              by_cases q1 : c % p = 0
              · have HI2 := Lib.hid (HI.out.trans (inn_f (ratT_f fun hh => hh.1 q1)))
                have hz : (c % p != 0) = false := by simp [q1]
                clear HI q1
                go_wp2
                go_round
                case rel => exact ⟨a + 1, rfl, by omega, by omega, HI2.out⟩
                case measure => simp [intOf]; omega
              · have hz : (c % p != 0) = true := by simp [q1]
                obtain ⟨g, hg⟩ : ∃ g : Int, g = Int.gcd a c := ⟨_, rfl⟩
                by_cases q2 : g = 1
                · have hz2 : (g == 1) = true := by simp [q2]
                  obtain ⟨f, hf⟩ : ∃ f : Int, f = (n * c - a) % M := ⟨_, rfl⟩
                  have HG := Lib.hid hg
                  have HF := Lib.hid hf
                  by_cases q3 : f = 0
                  · have HI2 := Lib.hid (HI.out.trans (inn_t (ratT_t ⟨q1, by rw [← hg]; exact q2, by rw [Int.mul_comm c n]; rw [← hf]; exact q3⟩)))
                    have HOO := Lib.hid (HO.out.trans (HD.out.trans (outr_some HI2.out)))
                    have hz3 : (f == 0) = true := by simp [q3]
                    clear q1 q2 q3 hg hf HI HD HO HI2
                    go_wp2_with fail
                    all_goals
                      refine (s_gcdo a _ c _ (by first | exact .inl rfl | exact .inr rfl) (by omega) (by omega) (by omega) (by omega)).mono ?_
                      rw [← HG.out]
                      rintro e w3 ⟨rfl, rfl⟩
                      go_wp2_with fail
                      refine (s_mod _ _ _ M1 (by omega)).mono ?_
                      rw [← HF.out]
                      rintro e w3 ⟨rfl, rfl⟩
                      go_wp2
                      go_ret3
                      exact ⟨by rw [HOO.out]; rfl, T1.out⟩
                  · have HI2 := Lib.hid (HI.out.trans (inn_f (ratT_f fun hh => q3 (by have := hh.2.2; rw [Int.mul_comm c n] at this; rw [hf]; exact this))))
                    have hz3 : (f == 0) = false := by simp [q3]
                    clear q1 q2 q3 hg hf HI
                    go_wp2_with fail
                    all_goals
                      refine (s_gcdo a _ c _ (by first | exact .inl rfl | exact .inr rfl) (by omega) (by omega) (by omega) (by omega)).mono ?_
                      rw [← HG.out]
                      rintro e w3 ⟨rfl, rfl⟩
                      go_wp2_with fail
                      refine (s_mod _ _ _ M1 (by omega)).mono ?_
                      rw [← HF.out]
                      rintro e w3 ⟨rfl, rfl⟩
                      go_wp2
                      go_round
                      case rel => exact ⟨a + 1, rfl, by omega, by omega, HI2.out⟩
                      case measure => simp [intOf]; omega
                · have HI2 := Lib.hid (HI.out.trans (inn_f (ratT_f fun hh => q2 (by rw [hg]; exact hh.2.1))))
                  have hz2 : (g == 1) = false := by simp [q2]
                  have HG := Lib.hid hg
                  clear q1 q2 hg HI
                  go_wp2_with fail
                  all_goals
                    refine (s_gcdo a _ c _ (by first | exact .inl rfl | exact .inr rfl) (by omega) (by omega) (by omega) (by omega)).mono ?_
                    rw [← HG.out]
                    rintro e w3 ⟨rfl, rfl⟩
                    go_wp2
                    go_round
                    case rel => exact ⟨a + 1, rfl, by omega, by omega, HI2.out⟩
                    case measure => simp [intOf]; omega
            · obtain rfl : a = B + 1 := by omega
              have HI2 := Lib.hid (show inn (ratT p n M c) (2 * B + 1).toNat (-B) = none from hI.out.trans (by rw [Int.sub_self]; rfl))
              have HD2 := Lib.hid (HD.out.trans (outr_none HI2.out))
              clear hI HD HI2
              go_wp2
              go_round
              case rel => exact ⟨c + 1, rfl, by omega, by omega, HD2.out⟩
              case measure => simp [intOf]; omega
        · obtain rfl : c = B + 1 := by omega
          have HOO := Lib.hid (show ratO p xs B = none from HO.out.trans (hD.out.trans (by rw [Int.sub_self]; rfl)))
          clear hD HO
          go_wp2
          go_ret3
          exact ⟨by rw [HOO.out]; rfl, T1.out⟩
    · skip
      have r2 : B < 1 ∨ 40 < B := by omega
      have HO := Lib.hid (ratO_f (p := p) (xs := xs) (B := B) fun hh => h2 ⟨hh.2.1, hh.2.2⟩)
      clear ha h2
      go_enter Try.func36, Try.ntmps36
      go_wp2_with fail
      refine (s_padOk _ xs c1 p _ hR (by omega)).mono ?_
      rw [HV.out]
      rintro e w1 ⟨rfl, hb1⟩
      have hR1 := (hR.below hb1).more hb1.size
      have T1 := b_step (Below.refl _ _) hb1
      have T1 := Lib.hid T1
      clear hb1 hR hR1
      go_wp2_with (first | (go_at_call 43; refine (s_in_t _ _ _ _ ?_ ?_).mono ?_; omega; omega; rintro e w1 ⟨rfl, rfl⟩) | (go_at_call 43; refine (s_in_f _ _ _ _ ?_).mono ?_; omega; rintro e w1 ⟨rfl, rfl⟩))
      go_ret3
      exact ⟨by rw [HO.out]; rfl, T1.out⟩
  · skip
    have HV := Lib.hid (padB_f ha)
    have HO := Lib.hid (ratO_f (p := p) (xs := xs) (B := B) fun hh => ha hh.1)
    clear ha
    go_enter Try.func36, Try.ntmps36
    go_wp2_with fail
    refine (s_padOk _ xs c1 p _ hR (by omega)).mono ?_
    rw [HV.out]
    rintro e w1 ⟨rfl, hb1⟩
    have hR1 := (hR.below hb1).more hb1.size
    have T1 := b_step (Below.refl _ _) hb1
    have T1 := Lib.hid T1
    clear hb1 hR hR1
    go_wp2
    go_ret3
    exact ⟨by rw [HO.out]; rfl, T1.out⟩
end Go.Proofs.Ytjdfpodmjpkfpaa
