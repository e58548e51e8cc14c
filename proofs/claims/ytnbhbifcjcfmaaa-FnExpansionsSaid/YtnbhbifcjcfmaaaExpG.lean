/- Contract of FromExpansion (program). Conditions: lengths of at most 2^20. -/
import Derived.Test.YtnbhbifcjcfmaaaExpF
import Derived.Outline
import Derived.Laws.AppendOwn
import Derived.IntWalk
import Derived.Deep.QuietTactic
import Derived.BigQuiet
namespace Go.Proofs.Ytnbhbifcjcfmaaa
open Go.RowKit
set_option linter.unusedVariables false
theorem Fe.no {b : Int} {xs ys : List Int} (h : lpB b xs ys = false) : feA b xs ys = 0 ∧ feB b xs ys = 0 := by unfold feA feB; rw [h]; exact ⟨rfl, rfl⟩
theorem Fe.yes {b : Int} {xs ys : List Int} (h : lpB b xs ys = true) : feA b xs ys = fTop b xs ys / (Int.gcd (fTop b xs ys) (fBot b xs ys) : Int) ∧ feB b xs ys = fBot b xs ys / (Int.gcd (fTop b xs ys) (fBot b xs ys) : Int) := by unfold feA feB; rw [h]; exact ⟨rfl, rfl⟩

set_option maxHeartbeats 4000000 in
theorem i_FromExpansion (A C : Option Addr) (xs ys : List Int) (c1 c2 : Nat) (b : Int) (w : World) (hR : RI w w.heap.size A xs) (hS : RI w w.heap.size C ys) (hlx : xs.length ≤ 1048576) (hly : ys.length ≤ 1048576) :
    Calls Try.prog 21 #[.slice A xs.length c1, .slice C ys.length c2, .int .i64 b] w fun e w' => e = .returned (.tuple #[.int .i64 (feA b xs ys), .int .i64 (feB b xs ys), .bool (lpB b xs ys)]) ∧ Below w.heap.size w w' := by
  by_cases hp : LP b xs ys
  · have HV := Lib.hid (lpB_t hp)
    have HF := Lib.hid (Fe.yes HV.out)
    obtain ⟨b1, b2⟩ := baseB_bd hp.1
    have h9 := hp.2.1
    have HDX := Lib.hid hp.dig.1
    have HDY := Lib.hid hp.dig.2
    obtain ⟨nx0, nx1⟩ := nv_bd b1 hp.dig.1
    obtain ⟨ny0, ny1⟩ := nv_bd b1 hp.dig.2
    obtain ⟨px0, px1⟩ := pow16 b1 b2 (show xs.length ≤ 9 by omega)
    obtain ⟨py0, py1⟩ := pow16 b1 b2 (show ys.length ≤ 9 by omega)
    obtain ⟨T0, T9, B1, B9⟩ := hp.fin
    obtain ⟨T, hT⟩ : ∃ T, T = fTop b xs ys := ⟨_, rfl⟩
    obtain ⟨Bm, hBm⟩ : ∃ Bm, Bm = fBot b xs ys := ⟨_, rfl⟩
    rw [← hT] at T0 T9
    rw [← hBm] at B1 B9
    have HT := Lib.hid hT
    have HB := Lib.hid hBm
    obtain ⟨NX, hNX⟩ : ∃ N, N = nv b xs := ⟨_, rfl⟩
    obtain ⟨NY, hNY⟩ : ∃ N, N = nv b ys := ⟨_, rfl⟩
    obtain ⟨PX, hPX⟩ : ∃ N, N = b ^ xs.length := ⟨_, rfl⟩
    obtain ⟨PY, hPY⟩ : ∃ N, N = b ^ ys.length := ⟨_, rfl⟩
    rw [← hNX] at nx0 nx1
    rw [← hNY] at ny0 ny1
    rw [← hPX] at nx1 px0 px1
    rw [← hPY] at ny1 py0 py1
    have HNX := Lib.hid hNX
    have HNY := Lib.hid hNY
    have HPX := Lib.hid hPX
    have HPY := Lib.hid hPY
    by_cases hy : ys.length = 0
    · have fT : T = NX := by rw [hT, hNX]; unfold fTop; rw [if_pos hy]
      have fB : Bm = PX := by rw [hBm, hPX]; unfold fBot; rw [if_pos hy]
      have hy0 : ys.length ≤ 0 := by omega
      subst fT fB
      clear hp hT hBm hNX hNY hPX hPY hy
      go_enter Try.func21, Try.ntmps21
      go_wp2_with fail
      refine (i_lok A C xs ys c1 c2 b _ hR hS (by omega) (by omega)).mono ?_
      rw [HV.out]
      rintro e w1 ⟨rfl, hb1⟩
      have hR1 := (hR.below hb1).more hb1.size
      have hS1 := (hS.below hb1).more hb1.size
      have T1 := Lib.hid hb1
      clear hb1 hR hS
      go_wp2_with fail
      refine (i_num A xs c1 b _ hR1 b1 b2 (by omega) HDX.out).mono ?_
      rw [← HNX.out]
      rintro e w3 ⟨rfl, rfl⟩
      go_wp2_with fail
      refine (i_power b xs.length _ (by omega) (by omega) fun j hj => by have := (pow16 b1 b2 (show j ≤ 9 by omega)).2; omega).mono ?_
      rw [← HPX.out]
      rintro e w3 ⟨rfl, rfl⟩
      clear hR1 hS1
      obtain ⟨g, hg⟩ : ∃ g : Int, g = Int.gcd (T) (Bm) := ⟨_, rfl⟩
      have g1 : 1 ≤ g := by rw [hg]; exact gcd_ge B1
      have HG := Lib.hid hg
      clear hg
      go_wp2_with fail
      refine (i_gcd (T) (Bm) _ (by omega) (by omega) (by omega) (by omega)).mono ?_
      rw [← HG.out]
      rintro e w5 ⟨rfl, hb5⟩
      have T5 := Lib.hid (b_step T1.out hb5)
      clear hb5
      have e1 : (T).tdiv g = (T) / g := Int.tdiv_eq_ediv_of_nonneg T0
      have e2 : (Bm).tdiv g = (Bm) / g := Int.tdiv_eq_ediv_of_nonneg (by omega)
      have v0 : 0 ≤ (T) / g := Int.ediv_nonneg T0 (by omega)
      have v1 : (T) / g ≤ (T) := Int.ediv_le_self _ T0
      have v2 : 0 ≤ (Bm) / g := Int.ediv_nonneg (by omega) (by omega)
      have v3 : (Bm) / g ≤ (Bm) := Int.ediv_le_self _ (by omega)
      have e3 : wrap64 ((T) / g) = (T) / g := IntWalk.wrap64_in _ ⟨by omega, by omega⟩
      have e4 : wrap64 ((Bm) / g) = (Bm) / g := IntWalk.wrap64_in _ ⟨by omega, by omega⟩
      go_wp2
      go_quiet (fail)
      clear e1 e2
      go_wp2
      go_ret3
      rw [HV.out, HF.out.1, HF.out.2, ← HT.out, ← HB.out, ← HG.out]
      exact ⟨rfl, below_drewN T5.out _⟩
    · have fT : T = NX * (PY - 1) + NY := by rw [hT, hNX, hNY, hPY]; unfold fTop; rw [if_neg hy]
      have fB : Bm = PX * (PY - 1) := by rw [hBm, hPX, hPY]; unfold fBot; rw [if_neg hy]
      have hyp : 0 < ys.length := by omega
      obtain ⟨k0, k1, k2, k3⟩ := hp.bds hyp
      rw [← hNX, ← hPY] at k0 k1
      rw [← hPX, ← hPY] at k2 k3
      subst fT fB
      clear hp hT hBm hNX hNY hPX hPY hy
      go_enter Try.func21, Try.ntmps21
      go_wp2_with fail
      refine (i_lok A C xs ys c1 c2 b _ hR hS (by omega) (by omega)).mono ?_
      rw [HV.out]
      rintro e w1 ⟨rfl, hb1⟩
      have hR1 := (hR.below hb1).more hb1.size
      have hS1 := (hS.below hb1).more hb1.size
      have T1 := Lib.hid hb1
      clear hb1 hR hS
      go_wp2_with fail
      refine (i_num A xs c1 b _ hR1 b1 b2 (by omega) HDX.out).mono ?_
      rw [← HNX.out]
      rintro e w3 ⟨rfl, rfl⟩
      go_wp2_with fail
      refine (i_power b xs.length _ (by omega) (by omega) fun j hj => by have := (pow16 b1 b2 (show j ≤ 9 by omega)).2; omega).mono ?_
      rw [← HPX.out]
      rintro e w3 ⟨rfl, rfl⟩
      go_wp2_with fail
      refine (i_power b ys.length _ (by omega) (by omega) fun j hj => by have := (pow16 b1 b2 (show j ≤ 9 by omega)).2; omega).mono ?_
      rw [← HPY.out]
      rintro e w3 ⟨rfl, rfl⟩
      go_wp2_with fail
      refine (i_num C ys c2 b _ hS1 b1 b2 (by omega) HDY.out).mono ?_
      rw [← HNY.out]
      rintro e w3 ⟨rfl, rfl⟩
      clear hR1 hS1
      obtain ⟨g, hg⟩ : ∃ g : Int, g = Int.gcd (NX * (PY - 1) + NY) (PX * (PY - 1)) := ⟨_, rfl⟩
      have g1 : 1 ≤ g := by rw [hg]; exact gcd_ge B1
      have HG := Lib.hid hg
      clear hg
      go_wp2_with fail
      refine (i_gcd (NX * (PY - 1) + NY) (PX * (PY - 1)) _ (by omega) (by omega) (by omega) (by omega)).mono ?_
      rw [← HG.out]
      rintro e w5 ⟨rfl, hb5⟩
      have T5 := Lib.hid (b_step T1.out hb5)
      clear hb5
      have e1 : (NX * (PY - 1) + NY).tdiv g = (NX * (PY - 1) + NY) / g := Int.tdiv_eq_ediv_of_nonneg T0
      have e2 : (PX * (PY - 1)).tdiv g = (PX * (PY - 1)) / g := Int.tdiv_eq_ediv_of_nonneg (by omega)
      have v0 : 0 ≤ (NX * (PY - 1) + NY) / g := Int.ediv_nonneg T0 (by omega)
      have v1 : (NX * (PY - 1) + NY) / g ≤ (NX * (PY - 1) + NY) := Int.ediv_le_self _ T0
      have v2 : 0 ≤ (PX * (PY - 1)) / g := Int.ediv_nonneg (by omega) (by omega)
      have v3 : (PX * (PY - 1)) / g ≤ (PX * (PY - 1)) := Int.ediv_le_self _ (by omega)
      have e3 : wrap64 ((NX * (PY - 1) + NY) / g) = (NX * (PY - 1) + NY) / g := IntWalk.wrap64_in _ ⟨by omega, by omega⟩
      have e4 : wrap64 ((PX * (PY - 1)) / g) = (PX * (PY - 1)) / g := IntWalk.wrap64_in _ ⟨by omega, by omega⟩
      go_wp2
      go_quiet (fail)
      clear e1 e2
      go_wp2
      go_ret3
      rw [HV.out, HF.out.1, HF.out.2, ← HT.out, ← HB.out, ← HG.out]
      exact ⟨rfl, below_drewN T5.out _⟩
  · have HV := Lib.hid (lpB_f hp)
    have HF := Lib.hid (Fe.no HV.out)
    clear hp
    go_enter Try.func21, Try.ntmps21
    go_wp2_with fail
    refine (i_lok A C xs ys c1 c2 b _ hR hS (by omega) (by omega)).mono ?_
    rw [HV.out]
    rintro e w1 ⟨rfl, hb1⟩
    have T1 := Lib.hid hb1
    clear hb1 hR hS
    go_wp2
    go_ret3
    rw [HV.out, HF.out.1, HF.out.2]
    exact ⟨rfl, T1.out⟩
end Go.Proofs.Ytnbhbifcjcfmaaa
