/- Contracts of PadicRoot (program and reference). Conditions: lengths of at most 2^20. -/
import Derived.Test.YtjdfpodmjpkfpaaPadSearch
namespace Go.Proofs.Ytjdfpodmjpkfpaa
open Go.RowKit
set_option linter.unusedVariables false

set_option maxHeartbeats 4000000 in
theorem i_root (A : Option Addr) (xs : List Int) (c1 : Nat) (p : Int) (w : World) (hR : RI w w.heap.size A xs) (hlx : xs.length ≤ 1048576) :
    Calls Try.prog 29 #[.slice A xs.length c1, .int .i64 p] w (RetLB w (rootR p xs) (rootB p xs)) := by
  by_cases ha : PadP p xs
  · have HV := Lib.hid (padB_t ha)
    obtain ⟨p1, p2⟩ := primeB_bd ha.1
    by_cases h2 : p = 2
    · skip
      have HO := rootO_f (p := p) (xs := xs) (fun hh => hh.2.1 h2)
      have HR1 := Lib.hid (root_none HO).1
      have HR2 := Lib.hid (root_none HO).2
      clear HO
      have hz2 : (p == 2) = true := by simp [h2]
      clear ha h2
      go_enter Try.func29, Try.ntmps29
      go_wp2_with fail
      refine (i_padOk _ xs c1 p _ hR (by omega)).mono ?_
      rw [HV.out]
      rintro e w1 ⟨rfl, hb1⟩
      have hR1 := (hR.below hb1).more hb1.size
      have T1 := b_step (Below.refl _ _) hb1
      have T1 := Lib.hid T1
      clear hb1 hR hR1
      go_wp2
      go_ret2
      rw [HR1.out, HR2.out]
      exact RetLB.nil _ _ T1.out
    · skip
      have hz2 : (p == 2) = false := by simp [h2]
      have n1 := ha.2.1
      have n8 := ha.2.2.1
      obtain ⟨b0, off, hA, hb0, hc⟩ := hR.at_ (k := 0) (by omega)
      subst hA
      obtain ⟨d, hd⟩ : ∃ d, d = xs.getD 0 0 := ⟨_, rfl⟩
      rw [← hd] at hc
      have HR0 := Lib.hid hR
      clear hR
      by_cases h0 : d = 0
      · skip
        have HO := rootO_f (p := p) (xs := xs) (fun hh => hh.2.2 (by rw [← hd]; exact h0))
        have HR1 := Lib.hid (root_none HO).1
        have HR2 := Lib.hid (root_none HO).2
        clear HO
        have hz : (d == 0) = true := by simp [h0]
        have hR := HR0.out
        clear ha hd h0 h2
        go_enter Try.func29, Try.ntmps29
        go_wp2_with fail
        refine (i_padOk _ xs c1 p _ hR (by omega)).mono ?_
        rw [HV.out]
        rintro e w1 ⟨rfl, hb1⟩
        have hR1 := (hR.below hb1).more hb1.size
        have T1 := b_step (Below.refl _ _) hb1
        have hc1 : w1.cell? ⟨b0, off, none⟩ = some (.int .i64 d) := by simpa using (hb1.cell (p := ⟨b0, off + 0, none⟩) hb0).trans hc
        have T1 := Lib.hid T1
        clear hb1 hR hR1 hc
        go_wp2
        go_ret2
        rw [HR1.out, HR2.out]
        exact RetLB.nil _ _ T1.out
      · skip
        have hpr : PrP p xs := ⟨ha, h2, by rw [← hd]; exact h0⟩
        have HO := Lib.hid (rootO_t hpr)
        have hz : (d == 0) = false := by simp [h0]
        have HPW := Lib.hid (fun j (hj : j ≤ xs.length) => pow_bd p1 p2 (show j ≤ 8 by omega))
        have HDX := Lib.hid ha.digits
        obtain ⟨u1, u2⟩ := ha.val_bd
        obtain ⟨n, hn⟩ : ∃ n, n = val p xs := ⟨_, rfl⟩
        rw [← hn] at HO u1 u2
        have HU := Lib.hid hn
        have hR := HR0.out
        clear ha hn hd h0 hpr h2
        go_enter Try.func29, Try.ntmps29
        go_wp2_with fail
        refine (i_padOk _ xs c1 p _ hR (by omega)).mono ?_
        rw [HV.out]
        rintro e w1 ⟨rfl, hb1⟩
        have hR1 := (hR.below hb1).more hb1.size
        have T1 := b_step (Below.refl _ _) hb1
        have hc1 : w1.cell? ⟨b0, off, none⟩ = some (.int .i64 d) := by simpa using (hb1.cell (p := ⟨b0, off + 0, none⟩) hb0).trans hc
        have T1 := Lib.hid T1
        clear hb1 hR hc
        go_wp2_with fail
        refine (i_valueOf _ xs c1 p _ hR1 p1 (by omega) (by omega) HDX.out).mono ?_
        rw [← HU.out]
        rintro e w3 ⟨rfl, rfl⟩
        clear hR1
        clear hc1
        go_wp2
        go_loop [7, 8, 29] (fun a b i => ∃ (j : Nat) (x m : Int), j ≤ xs.length ∧ i = .int .i64 j ∧ a = .int .i64 x ∧ b = .int .i64 m ∧ 0 ≤ x ∧ x < m ∧ m = p ^ j ∧ Hid (rootsR p n xs.length 0 1 = rootsR p n (xs.length - j) x m)) (fun _ _ i => xs.length - (intOf i).toNat)
        case atStart => exact ⟨0, 0, 1, Nat.zero_le _, rfl, rfl, rfl, by omega, by omega, by simp, rfl⟩
        case round =>
          obtain ⟨j, x, m, hj, rfl, rfl, rfl, hx0, hxm, hm, hD⟩ := hrel
          by_cases hlt : j < xs.length
          · skip
            have hs : m * p = p ^ (j + 1) := by rw [Int.pow_succ, hm]
            have hq := HPW.out (j + 1) (by omega)
            have hm0 := HPW.out j (by omega)
            rw [← hs] at hq
            rw [← hm] at hm0
            obtain ⟨q1, q2⟩ := hq
            obtain ⟨m1, m2⟩ := hm0
            have HS := Lib.hid hs
            have HM := Lib.hid hm
            clear hs hm
            have HD := hD
            clear hD
            go_wp2
            go_loop [9] (fun a => ∃ (d : Int), a = .int .i64 d ∧ 0 ≤ d ∧ d ≤ p ∧ Hid (fdR (rootT p n x m) p.toNat 0 = fdR (rootT p n x m) (p - d).toNat d)) (fun a => (p - intOf a).toNat)
            case atStart => exact ⟨0, rfl, by omega, by omega, by unfold Hid; rw [Int.sub_zero]⟩
            case round =>
              obtain ⟨d, rfl, hd0, hdp, hF⟩ := hrel
              by_cases hdl : d < p
              · obtain ⟨k1, k2, k3, k4, k5, k6⟩ := root_bd m1 hx0 hxm hd0 hdl (by omega)
                have e1 : (p - d).toNat = (p - (d + 1)).toNat + 1 := by omega
                have HF1 := hF.out
                rw [e1] at HF1
                clear e1 hF
                have hdne : (d == p) = false := by simp; omega
                obtain ⟨g, hg⟩ : ∃ g, g = ((x + d * m) * (x + d * m) - n) % (m * p) := ⟨_, rfl⟩
                by_cases ht : g = 0
                · have HF2 := Lib.hid (HF1.trans (fdR_t (decide_eq_true (by rw [← hg]; exact ht))))
                  have HD2 := Lib.hid (HD.out.trans ((congrArg (fun k => rootsR p n k x m) (show xs.length - j = (xs.length - (j + 1)) + 1 by omega)).trans (rootsR_some HF2.out hdl)))
                  have hz : (g != 0) = false := by simp [ht]
                  have hz2 : (g == 0) = true := by simp [ht]
                  have HG := Lib.hid hg
                  clear ht HF1 hg HD HF2
                  go_wp2_with fail
                  refine (i_mod _ _ _ (by omega) (by omega)).mono ?_
                  rw [← HG.out]
                  rintro e w3 ⟨rfl, rfl⟩
                  go_wp2
                  go_round
                  case rel => exact ⟨j + 1, x + d * m, m * p, by omega, by go_num, rfl, rfl, by omega, by omega, HS.out, HD2.out⟩
                  case measure => simp [intOf]; omega
                · have HF2 := Lib.hid (HF1.trans (fdR_f (decide_eq_false (by rw [← hg]; exact ht))))
                  have hz : (g != 0) = true := by simp [ht]
                  have hz2 : (g == 0) = false := by simp [ht]
                  have HG := Lib.hid hg
                  clear ht HF1 hg
                  go_wp2_with fail
                  refine (i_mod _ _ _ (by omega) (by omega)).mono ?_
                  rw [← HG.out]
                  rintro e w3 ⟨rfl, rfl⟩
                  go_wp2
                  go_round
                  case rel => exact ⟨d + 1, rfl, by omega, by omega, HF2.out⟩
                  case measure => simp [intOf]; omega
              · obtain rfl : p = d := by omega
                have HF2 := Lib.hid (show fdR (rootT p n x m) p.toNat 0 = p from hF.out.trans (by rw [Int.sub_self]; rfl))
                have HOO := HO.out.trans (HD.out.trans ((congrArg (fun k => rootsR p n k x m) (show xs.length - j = (xs.length - (j + 1)) + 1 by omega)).trans (rootsR_none HF2.out)))
                have HR1 := Lib.hid (root_none HOO).1
                have HR2 := Lib.hid (root_none HOO).2
                have hdne : (p == p) = true := by simp
                clear HOO hF HD HF2 HO
                go_wp2
                go_ret2
                rw [HR1.out, HR2.out]
                exact RetLB.nil _ _ T1.out
          · skip
            obtain rfl : j = xs.length := by omega
            have HOO := Lib.hid (HO.out.trans (show rootsR p n xs.length 0 1 = some x from hD.out.trans (by rw [Nat.sub_self]; rfl)))
            have HR1 := Lib.hid (root_some HOO.out).1
            have HR2 := Lib.hid (root_some HOO.out).2
            have hm0 := (HPW.out xs.length (by omega))
            rw [← hm] at hm0
            obtain ⟨m1, m2⟩ := hm0
            clear hm
            go_wp2_with fail
            refine (i_placed x p xs.length _ (by omega) (by omega) p1 (by omega) (by omega)).mono ?_
            intro e w4 h4
            obtain ⟨A4, c4, rfl, hO, hb4⟩ := h4.toLB T1.out
            clear h4
            go_wp2
            go_ret2
            rw [HR1.out, HR2.out]
            exact ⟨A4, c4, rfl, hO, hb4⟩
  · skip
    have HV := Lib.hid (padB_f ha)
    have HO := rootO_f (p := p) (xs := xs) (fun hh => ha hh.1)
    have HR1 := Lib.hid (root_none HO).1
    have HR2 := Lib.hid (root_none HO).2
    clear HO
    clear ha
    go_enter Try.func29, Try.ntmps29
    go_wp2_with fail
    refine (i_padOk _ xs c1 p _ hR (by omega)).mono ?_
    rw [HV.out]
    rintro e w1 ⟨rfl, hb1⟩
    have hR1 := (hR.below hb1).more hb1.size
    have T1 := b_step (Below.refl _ _) hb1
    have T1 := Lib.hid T1
    clear hb1 hR hR1
    go_wp2
    go_ret2
    rw [HR1.out, HR2.out]
    exact RetLB.nil _ _ T1.out

set_option maxHeartbeats 4000000 in
theorem s_root (A : Option Addr) (xs : List Int) (c1 : Nat) (p : Int) (w : World) (hR : RI w w.heap.size A xs) (hlx : xs.length ≤ 1048576) :
    Calls Try.prog 40 #[.slice A xs.length c1, .int .i64 p] w (RetLB w (rootR p xs) (rootB p xs)) := by
  by_cases ha : PadP p xs
  · have HV := Lib.hid (padB_t ha)
    obtain ⟨p1, p2⟩ := primeB_bd ha.1
    by_cases h2 : p = 2
    · skip
      have HO := rootO_f (p := p) (xs := xs) (fun hh => hh.2.1 h2)
      have HR1 := Lib.hid (root_none HO).1
      have HR2 := Lib.hid (root_none HO).2
      clear HO
      have hz2 : (p == 2) = true := by simp [h2]
      clear ha h2
      go_enter Try.func40, Try.ntmps40
      go_wp2_with fail
      refine (s_padOk _ xs c1 p _ hR (by omega)).mono ?_
      rw [HV.out]
      rintro e w1 ⟨rfl, hb1⟩
      have hR1 := (hR.below hb1).more hb1.size
      have T1 := b_step (Below.refl _ _) hb1
      have T1 := Lib.hid T1
      clear hb1 hR hR1
      go_wp2
      go_ret2
      rw [HR1.out, HR2.out]
      exact RetLB.nil _ _ T1.out
    · skip
      have hz2 : (p == 2) = false := by simp [h2]
      have n1 := ha.2.1
      have n8 := ha.2.2.1
      obtain ⟨b0, off, hA, hb0, hc⟩ := hR.at_ (k := 0) (by omega)
      subst hA
      obtain ⟨d, hd⟩ : ∃ d, d = xs.getD 0 0 := ⟨_, rfl⟩
      rw [← hd] at hc
      have HR0 := Lib.hid hR
      clear hR
      by_cases h0 : d = 0
      · skip
        have HO := rootO_f (p := p) (xs := xs) (fun hh => hh.2.2 (by rw [← hd]; exact h0))
        have HR1 := Lib.hid (root_none HO).1
        have HR2 := Lib.hid (root_none HO).2
        clear HO
        have hz : (d == 0) = true := by simp [h0]
        have hR := HR0.out
        clear ha hd h0 h2
        go_enter Try.func40, Try.ntmps40
        go_wp2_with fail
        refine (s_padOk _ xs c1 p _ hR (by omega)).mono ?_
        rw [HV.out]
        rintro e w1 ⟨rfl, hb1⟩
        have hR1 := (hR.below hb1).more hb1.size
        have T1 := b_step (Below.refl _ _) hb1
        have hc1 : w1.cell? ⟨b0, off, none⟩ = some (.int .i64 d) := by simpa using (hb1.cell (p := ⟨b0, off + 0, none⟩) hb0).trans hc
        have T1 := Lib.hid T1
        clear hb1 hR hR1 hc
        go_wp2
        go_ret2
        rw [HR1.out, HR2.out]
        exact RetLB.nil _ _ T1.out
      · skip
        have hpr : PrP p xs := ⟨ha, h2, by rw [← hd]; exact h0⟩
        have HO := Lib.hid (rootO_t hpr)
        have hz : (d == 0) = false := by simp [h0]
        have HPW := Lib.hid (fun j (hj : j ≤ xs.length) => pow_bd p1 p2 (show j ≤ 8 by omega))
        have HDX := Lib.hid ha.digits
        obtain ⟨u1, u2⟩ := ha.val_bd
        obtain ⟨n, hn⟩ : ∃ n, n = val p xs := ⟨_, rfl⟩
        rw [← hn] at HO u1 u2
        have HU := Lib.hid hn
        have hR := HR0.out
        clear ha hn hd h0 hpr h2
        go_enter Try.func40, Try.ntmps40
        go_wp2_with fail
        refine (s_padOk _ xs c1 p _ hR (by omega)).mono ?_
        rw [HV.out]
        rintro e w1 ⟨rfl, hb1⟩
        have hR1 := (hR.below hb1).more hb1.size
        have T1 := b_step (Below.refl _ _) hb1
        have hc1 : w1.cell? ⟨b0, off, none⟩ = some (.int .i64 d) := by simpa using (hb1.cell (p := ⟨b0, off + 0, none⟩) hb0).trans hc
        have T1 := Lib.hid T1
        clear hb1 hR hc
        go_wp2_with fail
        refine (s_l02Value _ xs c1 p _ hR1 p1 (by omega) n8 HDX.out).mono ?_
        rw [← HU.out]
        rintro e w3 ⟨rfl, rfl⟩
        clear hR1
        clear hc1
        go_wp2
        go_loop [7, 8, 9] (fun a b i => ∃ (j : Nat) (x m : Int), j ≤ xs.length ∧ i = .int .i64 j ∧ a = .int .i64 x ∧ b = .int .i64 m ∧ 0 ≤ x ∧ x < m ∧ m = p ^ j ∧ Hid (rootsR p n xs.length 0 1 = rootsR p n (xs.length - j) x m)) (fun _ _ i => xs.length - (intOf i).toNat)
        case atStart => exact ⟨0, 0, 1, Nat.zero_le _, rfl, rfl, rfl, by omega, by omega, by simp, rfl⟩
        case round =>
          obtain ⟨j, x, m, hj, rfl, rfl, rfl, hx0, hxm, hm, hD⟩ := hrel
          by_cases hlt : j < xs.length
          · skip
            have hs : m * p = p ^ (j + 1) := by rw [Int.pow_succ, hm]
            have hq := HPW.out (j + 1) (by omega)
            have hm0 := HPW.out j (by omega)
            rw [← hs] at hq
            rw [← hm] at hm0
            obtain ⟨q1, q2⟩ := hq
            obtain ⟨m1, m2⟩ := hm0
            have HS := Lib.hid hs
            have HM := Lib.hid hm
            clear hs hm
            have HD := hD
            clear hD
            go_wp2
            go_loop [12, 7, 11] (fun a b c => ∃ (d : Int), a = .int .i64 d ∧ 0 ≤ d ∧ d ≤ p ∧ ((c = .bool false ∧ b = .int .i64 x ∧ Hid (fdR (rootT p n x m) p.toNat 0 = fdR (rootT p n x m) (p - d).toNat d)) ∨ (∃ d0, c = .bool true ∧ b = .int .i64 (x + d0 * m) ∧ 0 ≤ d0 ∧ d0 < p ∧ Hid (fdR (rootT p n x m) p.toNat 0 = d0)))) (fun a _ _ => (p - intOf a).toNat)
            case atStart => exact ⟨0, rfl, by omega, by omega, .inl ⟨rfl, rfl, by unfold Hid; rw [Int.sub_zero]⟩⟩
            case round =>
              obtain ⟨d, rfl, hd0, hdp, ⟨rfl, rfl, hF⟩ | ⟨d0, rfl, rfl, k0, k1, hF⟩⟩ := hrel
              · by_cases hdl : d < p
                · obtain ⟨k1, k2, k3, k4, k5, k6⟩ := root_bd m1 hx0 hxm hd0 hdl (by omega)
                  have e1 : (p - d).toNat = (p - (d + 1)).toNat + 1 := by omega
                  have HF1 := hF.out
                  rw [e1] at HF1
                  clear e1 hF
                  by_cases ht : ((x + d * m) * (x + d * m) - n) % (m * p) = 0
                  · have HF2 := Lib.hid (HF1.trans (fdR_t (decide_eq_true ht)))
                    have hz : (((x + d * m) * (x + d * m) - n).tmod (m * p) == 0) = true := by rw [beq_iff_eq, ← Int.dvd_iff_tmod_eq_zero]; exact Int.dvd_iff_emod_eq_zero.2 ht
                    clear ht HF1
                    go_wp2
                    go_round
                    case rel => exact ⟨d + 1, rfl, by omega, by omega, .inr ⟨d, rfl, rfl, by omega, by omega, HF2.out⟩⟩
                    case measure => simp [intOf]; omega
                  · have HF2 := Lib.hid (HF1.trans (fdR_f (decide_eq_false ht)))
                    have hz : (((x + d * m) * (x + d * m) - n).tmod (m * p) == 0) = false := by rw [beq_eq_false_iff_ne]; intro h; exact ht (Int.dvd_iff_emod_eq_zero.1 (Int.dvd_iff_tmod_eq_zero.2 h))
                    clear ht HF1
                    go_wp2
                    go_round
                    case rel => exact ⟨d + 1, rfl, by omega, by omega, .inl ⟨rfl, rfl, HF2.out⟩⟩
                    case measure => simp [intOf]; omega
                · obtain rfl : p = d := by omega
                  have HF2 := Lib.hid (show fdR (rootT p n x m) p.toNat 0 = p from hF.out.trans (by rw [Int.sub_self]; rfl))
                  have HOO := HO.out.trans (HD.out.trans ((congrArg (fun k => rootsR p n k x m) (show xs.length - j = (xs.length - (j + 1)) + 1 by omega)).trans (rootsR_none HF2.out)))
                  have HR1 := Lib.hid (root_none HOO).1
                  have HR2 := Lib.hid (root_none HOO).2
                  clear HOO hF HD HF2 HO
                  go_wp2
                  go_ret2
                  rw [HR1.out, HR2.out]
                  exact RetLB.nil _ _ T1.out
              · obtain ⟨k2, k3, k4, k5, k6, k7⟩ := root_bd m1 hx0 hxm k0 k1 (by omega)
                have HD2 := Lib.hid (HD.out.trans ((congrArg (fun k => rootsR p n k x m) (show xs.length - j = (xs.length - (j + 1)) + 1 by omega)).trans (rootsR_some hF.out k1)))
                clear HD hF
                by_cases hdl : d < p
                all_goals
                  go_wp2
                  go_round
                  case rel => exact ⟨j + 1, x + d0 * m, m * p, by omega, by go_num, rfl, rfl, by omega, by omega, HS.out, HD2.out⟩
                  case measure => simp [intOf]; omega
          · skip
            obtain rfl : j = xs.length := by omega
            have HOO := Lib.hid (HO.out.trans (show rootsR p n xs.length 0 1 = some x from hD.out.trans (by rw [Nat.sub_self]; rfl)))
            have HR1 := Lib.hid (root_some HOO.out).1
            have HR2 := Lib.hid (root_some HOO.out).2
            have hm0 := (HPW.out xs.length (by omega))
            rw [← hm] at hm0
            obtain ⟨m1, m2⟩ := hm0
            clear hm
            go_wp2_with fail
            refine (s_digits x p xs.length _ (by omega) (by omega) p1 (by omega) (by omega)).mono ?_
            intro e w4 h4
            obtain ⟨A4, c4, rfl, hO, hb4⟩ := h4.toLB T1.out
            clear h4
            go_wp2
            go_ret2
            rw [HR1.out, HR2.out]
            exact ⟨A4, c4, rfl, hO, hb4⟩
  · skip
    have HV := Lib.hid (padB_f ha)
    have HO := rootO_f (p := p) (xs := xs) (fun hh => ha hh.1)
    have HR1 := Lib.hid (root_none HO).1
    have HR2 := Lib.hid (root_none HO).2
    clear HO
    clear ha
    go_enter Try.func40, Try.ntmps40
    go_wp2_with fail
    refine (s_padOk _ xs c1 p _ hR (by omega)).mono ?_
    rw [HV.out]
    rintro e w1 ⟨rfl, hb1⟩
    have hR1 := (hR.below hb1).more hb1.size
    have T1 := b_step (Below.refl _ _) hb1
    have T1 := Lib.hid T1
    clear hb1 hR hR1
    go_wp2
    go_ret2
    rw [HR1.out, HR2.out]
    exact RetLB.nil _ _ T1.out
end Go.Proofs.Ytjdfpodmjpkfpaa
