/- Contract of FromExpansion (reference). Conditions: lengths of at most 2^20. -/
import Derived.Test.YtnbhbifcjcfmaaaExpG
import Derived.Outline
import Derived.Laws.AppendOwn
import Derived.IntWalk
import Derived.Deep.QuietTactic
import Derived.BigQuiet
namespace Go.Proofs.Ytnbhbifcjcfmaaa
open Go.RowKit
set_option linter.unusedVariables false

set_option maxHeartbeats 4000000 in
theorem s_FromExpansion (a1 a2 : Addr) (xs ys : List Int) (c1 c2 : Nat) (b : Int) (w : World) (hR : RI w w.heap.size (some a1) xs) (hS : RI w w.heap.size (some a2) ys) (hlx : xs.length ≤ 1048576) (hly : ys.length ≤ 1048576) :
    Calls Try.prog 34 #[.slice (some a1) xs.length c1, .slice (some a2) ys.length c2, .int .i64 b] w fun e w' => e = .returned (.tuple #[.int .i64 (feA b xs ys), .int .i64 (feB b xs ys), .bool (lpB b xs ys)]) ∧ Below w.heap.size w w' := by
  by_cases hp : LP b xs ys
  · have HV := Lib.hid (lpB_t hp)
    have HF := Lib.hid (Fe.yes HV.out)
    obtain ⟨b1, b2⟩ := baseB_bd hp.1
    have h9 := hp.2.1
    have HDX := Lib.hid hp.dig.1
    have HDY := Lib.hid hp.dig.2
    obtain ⟨nx0, nx1⟩ := nv_bd b1 hp.dig.1
    obtain ⟨ny0, ny1⟩ := nv_bd b1 hp.dig.2
    obtain ⟨px0, px1⟩ := pow16 b1 b2 (show xs.length ≤ 9 by omega)
    obtain ⟨py0, py1⟩ := pow16 b1 b2 (show ys.length ≤ 9 by omega)
    obtain ⟨T0, T9, B1, B9⟩ := hp.fin
    obtain ⟨T, hT⟩ : ∃ T, T = fTop b xs ys := ⟨_, rfl⟩
    obtain ⟨Bm, hBm⟩ : ∃ Bm, Bm = fBot b xs ys := ⟨_, rfl⟩
    rw [← hT] at T0 T9
    rw [← hBm] at B1 B9
    have HT := Lib.hid hT
    have HB := Lib.hid hBm
    obtain ⟨NX, hNX⟩ : ∃ N, N = nv b xs := ⟨_, rfl⟩
    obtain ⟨NY, hNY⟩ : ∃ N, N = nv b ys := ⟨_, rfl⟩
    obtain ⟨PX, hPX⟩ : ∃ N, N = b ^ xs.length := ⟨_, rfl⟩
    obtain ⟨PY, hPY⟩ : ∃ N, N = b ^ ys.length := ⟨_, rfl⟩
    rw [← hNX] at nx0 nx1
    rw [← hNY] at ny0 ny1
    rw [← hPX] at nx1 px0 px1
    rw [← hPY] at ny1 py0 py1
    have HNX := Lib.hid hNX
    have HNY := Lib.hid hNY
    have HPX := Lib.hid hPX
    have HPY := Lib.hid hPY
    by_cases hy : ys.length = 0
    · have fT : T = NX := by rw [hT, hNX]; unfold fTop; rw [if_pos hy]
      have fB : Bm = PX := by rw [hBm, hPX]; unfold fBot; rw [if_pos hy]
      have hy0 : ys.length ≤ 0 := by omega
      subst fT fB
      clear hp hT hBm hNX hNY hPX hPY hy
      go_enter Try.func34, Try.ntmps34
      go_wp2_with fail
      refine (s_lok a1 a2 xs ys c1 c2 b _ hR hS (by omega) (by omega)).mono ?_
      rw [HV.out]
      rintro e w1 ⟨rfl, hb1⟩
      have hR1 := (hR.below hb1).more hb1.size
      have hS1 := (hS.below hb1).more hb1.size
      have T1 := Lib.hid hb1
      clear hb1 hR hS
      go_wp2
      go_loop [9, 25] (fun n i => ∃ k : Nat, k ≤ xs.length ∧ i = .int .i64 k ∧ n = .int .i64 (nv b (xs.take k))) (fun _ i => xs.length - (intOf i).toNat)
      case atStart => exact ⟨0, Nat.zero_le _, rfl, rfl⟩
      case round =>
        obtain ⟨k, hk, rfl, rfl⟩ := hrel
        by_cases hlt : k < xs.length
        · obtain ⟨b0, off, hA, hb0, hc⟩ := RI.at_ hR1 hlt
          obtain ⟨d, hdd⟩ : ∃ d, d = xs.getD k 0 := ⟨_, rfl⟩
          rw [← hdd] at hc
          obtain ⟨d0, d1⟩ := HDX.out d (by rw [hdd]; exact getD_memL hlt)
          have HST := Lib.hid (show nv b (xs.take (k + 1)) = nv b (xs.take k) * b + d by rw [nv_take hlt, ← hdd])
          obtain ⟨n0, n1⟩ := nv_bd b1 (xs := xs.take k) (fun x hx => HDX.out x (List.mem_of_mem_take hx))
          have pl := pow16 b1 b2 (show (xs.take k).length ≤ 9 by rw [List.length_take]; omega)
          obtain ⟨v, hv⟩ : ∃ v, v = nv b (xs.take k) := ⟨_, rfl⟩
          rw [← hv] at n0 n1 HST
          rw [← hv]
          have m0 : 0 ≤ v * b := Int.mul_nonneg n0 (by omega)
          have m1 : v * b ≤ 68719476736 * 16 := Int.mul_le_mul (by omega) (by omega) (by omega) (by omega)
          have HRR := Lib.hid hR1
          first | subst hA | (injection hA with hA; subst hA)
          clear hdd hv n1 pl
          go_wp2
          go_round
          case rel => exact ⟨k + 1, by omega, by go_num, by rw [HST.out]⟩
          case measure => simp [intOf]; omega
        · obtain rfl : k = xs.length := by omega
          rw [List.take_of_length_le (Nat.le_refl _), ← HNX.out]
          go_wp2_with fail
          refine (s_power b xs.length _ (by omega) (by omega) fun j hj => by have := (pow16 b1 b2 (show j ≤ 9 by omega)).2; omega).mono ?_
          rw [← HPX.out]
          rintro e w3 ⟨rfl, rfl⟩
          clear hR1 hS1
          obtain ⟨g, hg⟩ : ∃ g : Int, g = Int.gcd (T) (Bm) := ⟨_, rfl⟩
          have g1 : 1 ≤ g := by rw [hg]; exact gcd_ge B1
          have HG := Lib.hid hg
          clear hg
          go_wp2_with fail
          refine (s_gcd (T) (Bm) _ (by omega) (by omega) (by omega) (by omega)).mono ?_
          rw [← HG.out]
          rintro e w5 ⟨rfl, rfl⟩
          have T5 := Lib.hid T1.out
          have e1 : (T).tdiv g = (T) / g := Int.tdiv_eq_ediv_of_nonneg T0
          have e2 : (Bm).tdiv g = (Bm) / g := Int.tdiv_eq_ediv_of_nonneg (by omega)
          have v0 : 0 ≤ (T) / g := Int.ediv_nonneg T0 (by omega)
          have v1 : (T) / g ≤ (T) := Int.ediv_le_self _ T0
          have v2 : 0 ≤ (Bm) / g := Int.ediv_nonneg (by omega) (by omega)
          have v3 : (Bm) / g ≤ (Bm) := Int.ediv_le_self _ (by omega)
          have e3 : wrap64 ((T) / g) = (T) / g := IntWalk.wrap64_in _ ⟨by omega, by omega⟩
          have e4 : wrap64 ((Bm) / g) = (Bm) / g := IntWalk.wrap64_in _ ⟨by omega, by omega⟩
          go_wp2
          go_quiet (fail)
          clear e1 e2
          go_wp2
          go_ret3
          rw [HV.out, HF.out.1, HF.out.2, ← HT.out, ← HB.out, ← HG.out]
          exact ⟨rfl, below_drewN T5.out _⟩
    · have fT : T = NX * (PY - 1) + NY := by rw [hT, hNX, hNY, hPY]; unfold fTop; rw [if_neg hy]
      have fB : Bm = PX * (PY - 1) := by rw [hBm, hPX, hPY]; unfold fBot; rw [if_neg hy]
      have hyp : 0 < ys.length := by omega
      obtain ⟨k0, k1, k2, k3⟩ := hp.bds hyp
      rw [← hNX, ← hPY] at k0 k1
      rw [← hPX, ← hPY] at k2 k3
      subst fT fB
      clear hp hT hBm hNX hNY hPX hPY hy
      go_enter Try.func34, Try.ntmps34
      go_wp2_with fail
      refine (s_lok a1 a2 xs ys c1 c2 b _ hR hS (by omega) (by omega)).mono ?_
      rw [HV.out]
      rintro e w1 ⟨rfl, hb1⟩
      have hR1 := (hR.below hb1).more hb1.size
      have hS1 := (hS.below hb1).more hb1.size
      have T1 := Lib.hid hb1
      clear hb1 hR hS
      go_wp2
      go_loop [9, 25] (fun n i => ∃ k : Nat, k ≤ xs.length ∧ i = .int .i64 k ∧ n = .int .i64 (nv b (xs.take k))) (fun _ i => xs.length - (intOf i).toNat)
      case atStart => exact ⟨0, Nat.zero_le _, rfl, rfl⟩
      case round =>
        obtain ⟨k, hk, rfl, rfl⟩ := hrel
        by_cases hlt : k < xs.length
        · obtain ⟨b0, off, hA, hb0, hc⟩ := RI.at_ hR1 hlt
          obtain ⟨d, hdd⟩ : ∃ d, d = xs.getD k 0 := ⟨_, rfl⟩
          rw [← hdd] at hc
          obtain ⟨d0, d1⟩ := HDX.out d (by rw [hdd]; exact getD_memL hlt)
          have HST := Lib.hid (show nv b (xs.take (k + 1)) = nv b (xs.take k) * b + d by rw [nv_take hlt, ← hdd])
          obtain ⟨n0, n1⟩ := nv_bd b1 (xs := xs.take k) (fun x hx => HDX.out x (List.mem_of_mem_take hx))
          have pl := pow16 b1 b2 (show (xs.take k).length ≤ 9 by rw [List.length_take]; omega)
          obtain ⟨v, hv⟩ : ∃ v, v = nv b (xs.take k) := ⟨_, rfl⟩
          rw [← hv] at n0 n1 HST
          rw [← hv]
          have m0 : 0 ≤ v * b := Int.mul_nonneg n0 (by omega)
          have m1 : v * b ≤ 68719476736 * 16 := Int.mul_le_mul (by omega) (by omega) (by omega) (by omega)
          have HRR := Lib.hid hR1
          first | subst hA | (injection hA with hA; subst hA)
          clear hdd hv n1 pl
          go_wp2
          go_round
          case rel => exact ⟨k + 1, by omega, by go_num, by rw [HST.out]⟩
          case measure => simp [intOf]; omega
        · obtain rfl : k = xs.length := by omega
          rw [List.take_of_length_le (Nat.le_refl _), ← HNX.out]
          go_wp2_with fail
          refine (s_power b xs.length _ (by omega) (by omega) fun j hj => by have := (pow16 b1 b2 (show j ≤ 9 by omega)).2; omega).mono ?_
          rw [← HPX.out]
          rintro e w3 ⟨rfl, rfl⟩
          go_wp2_with fail
          refine (s_power b ys.length _ (by omega) (by omega) fun j hj => by have := (pow16 b1 b2 (show j ≤ 9 by omega)).2; omega).mono ?_
          rw [← HPY.out]
          rintro e w3 ⟨rfl, rfl⟩
          go_wp2
          go_loop [14, 49] (fun n i => ∃ k : Nat, k ≤ ys.length ∧ i = .int .i64 k ∧ n = .int .i64 (nv b (ys.take k))) (fun _ i => ys.length - (intOf i).toNat)
          case atStart => exact ⟨0, Nat.zero_le _, rfl, rfl⟩
          case round =>
            obtain ⟨k, hk, rfl, rfl⟩ := hrel
            by_cases hlt : k < ys.length
            · obtain ⟨b0, off, hA, hb0, hc⟩ := RI.at_ hS1 hlt
              obtain ⟨d, hdd⟩ : ∃ d, d = ys.getD k 0 := ⟨_, rfl⟩
              rw [← hdd] at hc
              obtain ⟨d0, d1⟩ := HDY.out d (by rw [hdd]; exact getD_memL hlt)
              have HST := Lib.hid (show nv b (ys.take (k + 1)) = nv b (ys.take k) * b + d by rw [nv_take hlt, ← hdd])
              obtain ⟨n0, n1⟩ := nv_bd b1 (xs := ys.take k) (fun x hx => HDY.out x (List.mem_of_mem_take hx))
              have pl := pow16 b1 b2 (show (ys.take k).length ≤ 9 by rw [List.length_take]; omega)
              obtain ⟨v, hv⟩ : ∃ v, v = nv b (ys.take k) := ⟨_, rfl⟩
              rw [← hv] at n0 n1 HST
              rw [← hv]
              have m0 : 0 ≤ v * b := Int.mul_nonneg n0 (by omega)
              have m1 : v * b ≤ 68719476736 * 16 := Int.mul_le_mul (by omega) (by omega) (by omega) (by omega)
              have HRR := Lib.hid hS1
              first | subst hA | (injection hA with hA; subst hA)
              clear hdd hv n1 pl
              go_wp2
              go_round
              case rel => exact ⟨k + 1, by omega, by go_num, by rw [HST.out]⟩
              case measure => simp [intOf]; omega
            · obtain rfl : k = ys.length := by omega
              rw [List.take_of_length_le (Nat.le_refl _), ← HNY.out]
              clear hR1 hS1
              obtain ⟨g, hg⟩ : ∃ g : Int, g = Int.gcd (NX * (PY - 1) + NY) (PX * (PY - 1)) := ⟨_, rfl⟩
              have g1 : 1 ≤ g := by rw [hg]; exact gcd_ge B1
              have HG := Lib.hid hg
              clear hg
              go_wp2_with fail
              refine (s_gcd (NX * (PY - 1) + NY) (PX * (PY - 1)) _ (by omega) (by omega) (by omega) (by omega)).mono ?_
              rw [← HG.out]
              rintro e w5 ⟨rfl, rfl⟩
              have T5 := Lib.hid T1.out
              have e1 : (NX * (PY - 1) + NY).tdiv g = (NX * (PY - 1) + NY) / g := Int.tdiv_eq_ediv_of_nonneg T0
              have e2 : (PX * (PY - 1)).tdiv g = (PX * (PY - 1)) / g := Int.tdiv_eq_ediv_of_nonneg (by omega)
              have v0 : 0 ≤ (NX * (PY - 1) + NY) / g := Int.ediv_nonneg T0 (by omega)
              have v1 : (NX * (PY - 1) + NY) / g ≤ (NX * (PY - 1) + NY) := Int.ediv_le_self _ T0
              have v2 : 0 ≤ (PX * (PY - 1)) / g := Int.ediv_nonneg (by omega) (by omega)
              have v3 : (PX * (PY - 1)) / g ≤ (PX * (PY - 1)) := Int.ediv_le_self _ (by omega)
              have e3 : wrap64 ((NX * (PY - 1) + NY) / g) = (NX * (PY - 1) + NY) / g := IntWalk.wrap64_in _ ⟨by omega, by omega⟩
              have e4 : wrap64 ((PX * (PY - 1)) / g) = (PX * (PY - 1)) / g := IntWalk.wrap64_in _ ⟨by omega, by omega⟩
              go_wp2
              go_quiet (fail)
              clear e1 e2
              go_wp2
              go_ret3
              rw [HV.out, HF.out.1, HF.out.2, ← HT.out, ← HB.out, ← HG.out]
              exact ⟨rfl, below_drewN T5.out _⟩
  · have HV := Lib.hid (lpB_f hp)
    have HF := Lib.hid (Fe.no HV.out)
    clear hp
    go_enter Try.func34, Try.ntmps34
    go_wp2_with fail
    refine (s_lok a1 a2 xs ys c1 c2 b _ hR hS (by omega) (by omega)).mono ?_
    rw [HV.out]
    rintro e w1 ⟨rfl, hb1⟩
    have T1 := Lib.hid hb1
    clear hb1 hR hS
    go_wp2
    go_ret3
    rw [HV.out, HF.out.1, HF.out.2]
    exact ⟨rfl, T1.out⟩
end Go.Proofs.Ytnbhbifcjcfmaaa
