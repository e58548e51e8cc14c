/- Values of SequenceAt and SumOf. Conditions: the listed table. -/
import Derived.Test.YtobbbaagoiejeaaDoorSeqI
namespace Go.Proofs.YtobbbaagoiejeaaDoor
open Go.RowKit
set_option linter.unusedVariables false

theorem i_kind_t (k : Int) (w : World) (h1 : 1 ≤ k) (h2 : k ≤ 5) : Calls Tryd.prog 30 #[.int .i64 k] w fun e w' => e = .returned (.bool true) ∧ w = w' := by
  go_enter Tryd.func30, Tryd.ntmps30
  go_wp2_with (first | (go_at_call 33; refine (i_in_t _ _ _ _ ?_ ?_).mono ?_; omega; omega; rintro e w1 ⟨rfl, rfl⟩) | (go_at_call 33; refine (i_in_f _ _ _ _ ?_).mono ?_; omega; rintro e w1 ⟨rfl, rfl⟩))
  go_ret
  exact ⟨rfl, rfl⟩
theorem i_kind_f (k : Int) (w : World) (h : k < 1 ∨ 5 < k) : Calls Tryd.prog 30 #[.int .i64 k] w fun e w' => e = .returned (.bool false) ∧ w = w' := by
  go_enter Tryd.func30, Tryd.ntmps30
  go_wp2_with (first | (go_at_call 33; refine (i_in_t _ _ _ _ ?_ ?_).mono ?_; omega; omega; rintro e w1 ⟨rfl, rfl⟩) | (go_at_call 33; refine (i_in_f _ _ _ _ ?_).mono ?_; omega; rintro e w1 ⟨rfl, rfl⟩))
  go_ret
  exact ⟨rfl, rfl⟩
theorem s_kind_t (k : Int) (w : World) (h1 : 1 ≤ k) (h2 : k ≤ 5) : Calls Tryd.prog 27 #[.int .i64 k] w fun e w' => e = .returned (.bool true) ∧ w = w' := by
  go_enter Tryd.func27, Tryd.ntmps27
  go_wp2_with (first | (go_at_call 28; refine (s_in_t _ _ _ _ ?_ ?_).mono ?_; omega; omega; rintro e w1 ⟨rfl, rfl⟩) | (go_at_call 28; refine (s_in_f _ _ _ _ ?_).mono ?_; omega; rintro e w1 ⟨rfl, rfl⟩))
  go_ret
  exact ⟨rfl, rfl⟩
theorem s_kind_f (k : Int) (w : World) (h : k < 1 ∨ 5 < k) : Calls Tryd.prog 27 #[.int .i64 k] w fun e w' => e = .returned (.bool false) ∧ w = w' := by
  go_enter Tryd.func27, Tryd.ntmps27
  go_wp2_with (first | (go_at_call 28; refine (s_in_t _ _ _ _ ?_ ?_).mono ?_; omega; omega; rintro e w1 ⟨rfl, rfl⟩) | (go_at_call 28; refine (s_in_f _ _ _ _ ?_).mono ?_; omega; rintro e w1 ⟨rfl, rfl⟩))
  go_ret
  exact ⟨rfl, rfl⟩
theorem i_num_t (k : Int) (w : World) (h1 : 0 ≤ k) (h2 : k ≤ 1000000000000) : Calls Tryd.prog 31 #[.int .i64 k] w fun e w' => e = .returned (.bool true) ∧ w = w' := by
  go_enter Tryd.func31, Tryd.ntmps31
  go_wp2_with (first | (go_at_call 33; refine (i_in_t _ _ _ _ ?_ ?_).mono ?_; omega; omega; rintro e w1 ⟨rfl, rfl⟩) | (go_at_call 33; refine (i_in_f _ _ _ _ ?_).mono ?_; omega; rintro e w1 ⟨rfl, rfl⟩))
  go_ret
  exact ⟨rfl, rfl⟩
theorem i_num_f (k : Int) (w : World) (h : k < 0 ∨ 1000000000000 < k) : Calls Tryd.prog 31 #[.int .i64 k] w fun e w' => e = .returned (.bool false) ∧ w = w' := by
  go_enter Tryd.func31, Tryd.ntmps31
  go_wp2_with (first | (go_at_call 33; refine (i_in_t _ _ _ _ ?_ ?_).mono ?_; omega; omega; rintro e w1 ⟨rfl, rfl⟩) | (go_at_call 33; refine (i_in_f _ _ _ _ ?_).mono ?_; omega; rintro e w1 ⟨rfl, rfl⟩))
  go_ret
  exact ⟨rfl, rfl⟩

def seqV (k n : Int) : Int := if 1 ≤ k ∧ k ≤ 5 ∧ 0 ≤ n ∧ n ≤ 1000000000000 then ((sq k.toNat n.toNat : Nat) : Int) else -1
def sumN (kk : Nat) : Nat → Int
  | 0 => 0
  | j + 1 => sumN kk j + (1 - 2 * ((sq kk j % 2 : Nat) : Int))
theorem sumN_bd (kk : Nat) : ∀ j : Nat, -(j : Int) ≤ sumN kk j ∧ sumN kk j ≤ j
  | 0 => by simp [sumN]
  | j + 1 => by
    have := sumN_bd kk j
    simp only [sumN]
    omega
def sumV (k n : Int) : Int := if 1 ≤ k ∧ k ≤ 5 ∧ 0 ≤ n ∧ n ≤ 1000 then sumN k.toNat n.toNat else 0
set_option maxHeartbeats 1000000 in
theorem s_SequenceAt (k n : Int) (w : World) : Calls Tryd.prog 10 #[.int .i64 k, .int .i64 n] w fun e w' => e = .returned (.int .i64 (seqV k n)) ∧ Below w.heap.size w w' := by
  by_cases hk : 1 ≤ k ∧ k ≤ 5
  · by_cases hn : 0 ≤ n ∧ n ≤ 1000000000000
    · obtain ⟨kk, rfl⟩ := Int.eq_ofNat_of_zero_le (show 0 ≤ k by omega)
      obtain ⟨nn, rfl⟩ := Int.eq_ofNat_of_zero_le (show 0 ≤ n by omega)
      rw [show seqV (kk : Nat) (nn : Nat) = _ from if_pos ⟨hk.1, hk.2, hn.1, hn.2⟩]
      simp only [Int.toNat_natCast]
      go_enter Tryd.func10, Tryd.ntmps10
      go_wp2_with (first | (go_at_call 27; refine (s_kind_t _ _ ?_ ?_).mono ?_; omega; omega; rintro e w1 ⟨rfl, rfl⟩) | (go_at_call 27; refine (s_kind_f _ _ ?_).mono ?_; omega; rintro e w1 ⟨rfl, rfl⟩) | (go_at_call 28; refine (s_in_t _ _ _ _ ?_ ?_).mono ?_; omega; omega; rintro e w1 ⟨rfl, rfl⟩) | (go_at_call 28; refine (s_in_f _ _ _ _ ?_).mono ?_; omega; rintro e w1 ⟨rfl, rfl⟩) | (go_at_call 29; refine (s_at kk nn _ (by omega) (by omega) (by omega)).mono ?_; rintro e w1 ⟨rfl, hb1⟩; have HB1 := Lib.hid hb1; clear hb1))
      go_ret
      exact ⟨rfl, HB1.out⟩
    · rw [show seqV k n = _ from if_neg (fun h => hn ⟨h.2.2.1, h.2.2.2⟩)]
      obtain ⟨hk1, hk2⟩ := hk
      have hn' : n < 0 ∨ 1000000000000 < n := by omega
      clear hn
      go_enter Tryd.func10, Tryd.ntmps10
      go_wp2_with (first | (go_at_call 27; refine (s_kind_t _ _ ?_ ?_).mono ?_; omega; omega; rintro e w1 ⟨rfl, rfl⟩) | (go_at_call 27; refine (s_kind_f _ _ ?_).mono ?_; omega; rintro e w1 ⟨rfl, rfl⟩) | (go_at_call 28; refine (s_in_t _ _ _ _ ?_ ?_).mono ?_; omega; omega; rintro e w1 ⟨rfl, rfl⟩) | (go_at_call 28; refine (s_in_f _ _ _ _ ?_).mono ?_; omega; rintro e w1 ⟨rfl, rfl⟩))
      go_ret
      exact ⟨rfl, Below.refl _ _⟩
  · rw [show seqV k n = _ from if_neg (fun h => hk ⟨h.1, h.2.1⟩)]
    have hk' : k < 1 ∨ 5 < k := by omega
    clear hk
    go_enter Tryd.func10, Tryd.ntmps10
    go_wp2_with (first | (go_at_call 27; refine (s_kind_t _ _ ?_ ?_).mono ?_; omega; omega; rintro e w1 ⟨rfl, rfl⟩) | (go_at_call 27; refine (s_kind_f _ _ ?_).mono ?_; omega; rintro e w1 ⟨rfl, rfl⟩) | (go_at_call 28; refine (s_in_t _ _ _ _ ?_ ?_).mono ?_; omega; omega; rintro e w1 ⟨rfl, rfl⟩) | (go_at_call 28; refine (s_in_f _ _ _ _ ?_).mono ?_; omega; rintro e w1 ⟨rfl, rfl⟩))
    go_ret
    exact ⟨rfl, Below.refl _ _⟩
set_option maxHeartbeats 1000000 in
theorem s_SumOf (k n : Int) (w : World) : Calls Tryd.prog 12 #[.int .i64 k, .int .i64 n] w fun e w' => e = .returned (.int .i64 (sumV k n)) ∧ Below w.heap.size w w' := by
  by_cases hk : 1 ≤ k ∧ k ≤ 5
  · by_cases hn : 0 ≤ n ∧ n ≤ 1000
    · obtain ⟨kk, rfl⟩ := Int.eq_ofNat_of_zero_le (show 0 ≤ k by omega)
      obtain ⟨nn, rfl⟩ := Int.eq_ofNat_of_zero_le (show 0 ≤ n by omega)
      rw [show sumV (kk : Nat) (nn : Nat) = _ from if_pos ⟨hk.1, hk.2, hn.1, hn.2⟩]
      simp only [Int.toNat_natCast]
      go_enter Tryd.func12, Tryd.ntmps12
      go_wp2_with (first | (go_at_call 27; refine (s_kind_t _ _ ?_ ?_).mono ?_; omega; omega; rintro e w1 ⟨rfl, rfl⟩) | (go_at_call 27; refine (s_kind_f _ _ ?_).mono ?_; omega; rintro e w1 ⟨rfl, rfl⟩) | (go_at_call 28; refine (s_in_t _ _ _ _ ?_ ?_).mono ?_; omega; omega; rintro e w1 ⟨rfl, rfl⟩) | (go_at_call 28; refine (s_in_f _ _ _ _ ?_).mono ?_; omega; rintro e w1 ⟨rfl, rfl⟩))
      go_loopw [6, 5] (fun i v wr => ∃ j : Nat, j ≤ nn ∧ i = .int .i64 j ∧ v = .int .i64 (sumN kk j) ∧ Below w.heap.size w wr) (fun i _ _ => nn - (intOf i).toNat)
      case atStart => exact ⟨0, Nat.zero_le _, rfl, rfl, Below.refl _ _⟩
      case round =>
        obtain ⟨j, hj, rfl, rfl, hW⟩ := hrel
        have HT := Lib.hid hW
        clear hW
        by_cases hlt : j < nn
        · obtain ⟨s0, s1⟩ := sumN_bd kk j
          have y9 := sq_le kk j
          obtain ⟨y, hy⟩ : ∃ y, y = sq kk j := ⟨_, rfl⟩
          obtain ⟨s, hs⟩ : ∃ s, s = sumN kk j := ⟨_, rfl⟩
          rw [← hy] at y9
          rw [← hs] at s0 s1
          rw [← hs]
          have HY := Lib.hid hy
          have HS := Lib.hid hs
          clear hy hs
          by_cases h2 : y % 2 = 0
          · have t1 : ((y : Int) % 2 == 0) = true := by simp; omega
            have H2 := Lib.hid h2
            clear h2
            go_wp2_with (first | (go_at_call 29; refine (s_at kk j _ (by omega) (by omega) (by omega)).mono ?_; rw [← HY.out]; rintro e w1 ⟨rfl, hb1⟩; have HB1 := Lib.hid hb1; clear hb1))
            go_roundw
            case rel => exact ⟨j + 1, by omega, by go_num, by rw [sumN, ← HS.out, ← HY.out, H2.out]; rfl, b_step HT.out HB1.out⟩
            case measure => simp [intOf]; omega
          · have t1 : ((y : Int) % 2 == 0) = false := by simp; omega
            have H2 : Hid (y % 2 = 1) := Lib.hid (by omega)
            clear h2
            go_wp2_with (first | (go_at_call 29; refine (s_at kk j _ (by omega) (by omega) (by omega)).mono ?_; rw [← HY.out]; rintro e w1 ⟨rfl, hb1⟩; have HB1 := Lib.hid hb1; clear hb1))
            go_roundw
            case rel => exact ⟨j + 1, by omega, by go_num, by rw [sumN, ← HS.out, ← HY.out, H2.out]; rfl, b_step HT.out HB1.out⟩
            case measure => simp [intOf]; omega
        · obtain rfl : j = nn := by omega
          go_wp2
          go_ret
          exact ⟨rfl, HT.out⟩
    · rw [show sumV k n = _ from if_neg (fun h => hn ⟨h.2.2.1, h.2.2.2⟩)]
      obtain ⟨hk1, hk2⟩ := hk
      have hn' : n < 0 ∨ 1000 < n := by omega
      clear hn
      go_enter Tryd.func12, Tryd.ntmps12
      go_wp2_with (first | (go_at_call 27; refine (s_kind_t _ _ ?_ ?_).mono ?_; omega; omega; rintro e w1 ⟨rfl, rfl⟩) | (go_at_call 27; refine (s_kind_f _ _ ?_).mono ?_; omega; rintro e w1 ⟨rfl, rfl⟩) | (go_at_call 28; refine (s_in_t _ _ _ _ ?_ ?_).mono ?_; omega; omega; rintro e w1 ⟨rfl, rfl⟩) | (go_at_call 28; refine (s_in_f _ _ _ _ ?_).mono ?_; omega; rintro e w1 ⟨rfl, rfl⟩))
      go_ret
      exact ⟨rfl, Below.refl _ _⟩
  · rw [show sumV k n = _ from if_neg (fun h => hk ⟨h.1, h.2.1⟩)]
    have hk' : k < 1 ∨ 5 < k := by omega
    clear hk
    go_enter Tryd.func12, Tryd.ntmps12
    go_wp2_with (first | (go_at_call 27; refine (s_kind_t _ _ ?_ ?_).mono ?_; omega; omega; rintro e w1 ⟨rfl, rfl⟩) | (go_at_call 27; refine (s_kind_f _ _ ?_).mono ?_; omega; rintro e w1 ⟨rfl, rfl⟩) | (go_at_call 28; refine (s_in_t _ _ _ _ ?_ ?_).mono ?_; omega; omega; rintro e w1 ⟨rfl, rfl⟩) | (go_at_call 28; refine (s_in_f _ _ _ _ ?_).mono ?_; omega; rintro e w1 ⟨rfl, rfl⟩))
    go_ret
    exact ⟨rfl, Below.refl _ _⟩
set_option maxHeartbeats 1000000 in
theorem i_SequenceAt (k n : Int) (w : World) (hT : Tab w) : Calls Tryd.prog 11 #[.int .i64 k, .int .i64 n] w fun e w' => e = .returned (.int .i64 (seqV k n)) ∧ Below w.heap.size w w' := by
  by_cases hk : 1 ≤ k ∧ k ≤ 5
  · by_cases hn : 0 ≤ n ∧ n ≤ 1000000000000
    · obtain ⟨kk, rfl⟩ := Int.eq_ofNat_of_zero_le (show 0 ≤ k by omega)
      obtain ⟨nn, rfl⟩ := Int.eq_ofNat_of_zero_le (show 0 ≤ n by omega)
      rw [show seqV (kk : Nat) (nn : Nat) = _ from if_pos ⟨hk.1, hk.2, hn.1, hn.2⟩]
      simp only [Int.toNat_natCast]
      have HTB := Lib.hid hT
      go_enter Tryd.func11, Tryd.ntmps11
      go_wp2_with (first | (go_at_call 30; refine (i_kind_t _ _ ?_ ?_).mono ?_; omega; omega; rintro e w1 ⟨rfl, rfl⟩) | (go_at_call 30; refine (i_kind_f _ _ ?_).mono ?_; omega; rintro e w1 ⟨rfl, rfl⟩) | (go_at_call 31; refine (i_num_t _ _ ?_ ?_).mono ?_; omega; omega; rintro e w1 ⟨rfl, rfl⟩) | (go_at_call 31; refine (i_num_f _ _ ?_).mono ?_; omega; rintro e w1 ⟨rfl, rfl⟩) | (go_at_call 33; refine (i_in_t _ _ _ _ ?_ ?_).mono ?_; omega; omega; rintro e w1 ⟨rfl, rfl⟩) | (go_at_call 33; refine (i_in_f _ _ _ _ ?_).mono ?_; omega; rintro e w1 ⟨rfl, rfl⟩) | (go_at_call 32; refine (i_at kk nn _ (by omega) (by omega) (by omega) HTB.out).mono ?_; rintro e w1 ⟨rfl, hb1⟩; have HB1 := Lib.hid hb1; clear hb1))
      go_ret
      exact ⟨rfl, HB1.out⟩
    · rw [show seqV k n = _ from if_neg (fun h => hn ⟨h.2.2.1, h.2.2.2⟩)]
      obtain ⟨hk1, hk2⟩ := hk
      have hn' : n < 0 ∨ 1000000000000 < n := by omega
      clear hn
      go_enter Tryd.func11, Tryd.ntmps11
      go_wp2_with (first | (go_at_call 30; refine (i_kind_t _ _ ?_ ?_).mono ?_; omega; omega; rintro e w1 ⟨rfl, rfl⟩) | (go_at_call 30; refine (i_kind_f _ _ ?_).mono ?_; omega; rintro e w1 ⟨rfl, rfl⟩) | (go_at_call 31; refine (i_num_t _ _ ?_ ?_).mono ?_; omega; omega; rintro e w1 ⟨rfl, rfl⟩) | (go_at_call 31; refine (i_num_f _ _ ?_).mono ?_; omega; rintro e w1 ⟨rfl, rfl⟩) | (go_at_call 33; refine (i_in_t _ _ _ _ ?_ ?_).mono ?_; omega; omega; rintro e w1 ⟨rfl, rfl⟩) | (go_at_call 33; refine (i_in_f _ _ _ _ ?_).mono ?_; omega; rintro e w1 ⟨rfl, rfl⟩))
      go_ret
      exact ⟨rfl, Below.refl _ _⟩
  · rw [show seqV k n = _ from if_neg (fun h => hk ⟨h.1, h.2.1⟩)]
    have hk' : k < 1 ∨ 5 < k := by omega
    clear hk
    go_enter Tryd.func11, Tryd.ntmps11
    go_wp2_with (first | (go_at_call 30; refine (i_kind_t _ _ ?_ ?_).mono ?_; omega; omega; rintro e w1 ⟨rfl, rfl⟩) | (go_at_call 30; refine (i_kind_f _ _ ?_).mono ?_; omega; rintro e w1 ⟨rfl, rfl⟩) | (go_at_call 31; refine (i_num_t _ _ ?_ ?_).mono ?_; omega; omega; rintro e w1 ⟨rfl, rfl⟩) | (go_at_call 31; refine (i_num_f _ _ ?_).mono ?_; omega; rintro e w1 ⟨rfl, rfl⟩) | (go_at_call 33; refine (i_in_t _ _ _ _ ?_ ?_).mono ?_; omega; omega; rintro e w1 ⟨rfl, rfl⟩) | (go_at_call 33; refine (i_in_f _ _ _ _ ?_).mono ?_; omega; rintro e w1 ⟨rfl, rfl⟩))
    go_ret
    exact ⟨rfl, Below.refl _ _⟩
set_option maxHeartbeats 1000000 in
theorem i_SumOf (k n : Int) (w : World) (hT : Tab w) : Calls Tryd.prog 13 #[.int .i64 k, .int .i64 n] w fun e w' => e = .returned (.int .i64 (sumV k n)) ∧ Below w.heap.size w w' := by
  by_cases hk : 1 ≤ k ∧ k ≤ 5
  · by_cases hn : 0 ≤ n ∧ n ≤ 1000
    · obtain ⟨kk, rfl⟩ := Int.eq_ofNat_of_zero_le (show 0 ≤ k by omega)
      obtain ⟨nn, rfl⟩ := Int.eq_ofNat_of_zero_le (show 0 ≤ n by omega)
      rw [show sumV (kk : Nat) (nn : Nat) = _ from if_pos ⟨hk.1, hk.2, hn.1, hn.2⟩]
      simp only [Int.toNat_natCast]
      go_enter Tryd.func13, Tryd.ntmps13
      go_wp2_with (first | (go_at_call 30; refine (i_kind_t _ _ ?_ ?_).mono ?_; omega; omega; rintro e w1 ⟨rfl, rfl⟩) | (go_at_call 30; refine (i_kind_f _ _ ?_).mono ?_; omega; rintro e w1 ⟨rfl, rfl⟩) | (go_at_call 31; refine (i_num_t _ _ ?_ ?_).mono ?_; omega; omega; rintro e w1 ⟨rfl, rfl⟩) | (go_at_call 31; refine (i_num_f _ _ ?_).mono ?_; omega; rintro e w1 ⟨rfl, rfl⟩) | (go_at_call 33; refine (i_in_t _ _ _ _ ?_ ?_).mono ?_; omega; omega; rintro e w1 ⟨rfl, rfl⟩) | (go_at_call 33; refine (i_in_f _ _ _ _ ?_).mono ?_; omega; rintro e w1 ⟨rfl, rfl⟩))
      go_loopw [16, 5] (fun i v wr => ∃ j : Nat, j ≤ nn ∧ i = .int .i64 j ∧ v = .int .i64 (sumN kk j) ∧ Below w.heap.size w wr) (fun i _ _ => nn - (intOf i).toNat)
      case atStart => exact ⟨0, Nat.zero_le _, rfl, rfl, Below.refl _ _⟩
      case round =>
        obtain ⟨j, hj, rfl, rfl, hW⟩ := hrel
        have HT := Lib.hid hW
        have HTB := Lib.hid (hT.below hW)
        clear hW
        by_cases hlt : j < nn
        · obtain ⟨s0, s1⟩ := sumN_bd kk j
          have y9 := sq_le kk j
          obtain ⟨y, hy⟩ : ∃ y, y = sq kk j := ⟨_, rfl⟩
          obtain ⟨s, hs⟩ : ∃ s, s = sumN kk j := ⟨_, rfl⟩
          rw [← hy] at y9
          rw [← hs] at s0 s1
          rw [← hs]
          have HY := Lib.hid hy
          have HS := Lib.hid hs
          clear hy hs
          go_wp2_with (first | (go_at_call 32; refine (i_at kk j _ (by omega) (by omega) (by omega) HTB.out).mono ?_; rw [← HY.out]; rintro e w1 ⟨rfl, hb1⟩; have HB1 := Lib.hid hb1; clear hb1))
          go_roundw
          case rel => exact ⟨j + 1, by omega, by go_num, by rw [sumN, ← HS.out, ← HY.out]; go_num, b_step HT.out HB1.out⟩
          case measure => simp [intOf]; omega
        · obtain rfl : j = nn := by omega
          go_wp2
          go_ret
          exact ⟨rfl, HT.out⟩
    · rw [show sumV k n = _ from if_neg (fun h => hn ⟨h.2.2.1, h.2.2.2⟩)]
      obtain ⟨hk1, hk2⟩ := hk
      have hn' : n < 0 ∨ 1000 < n := by omega
      clear hn
      go_enter Tryd.func13, Tryd.ntmps13
      go_wp2_with (first | (go_at_call 30; refine (i_kind_t _ _ ?_ ?_).mono ?_; omega; omega; rintro e w1 ⟨rfl, rfl⟩) | (go_at_call 30; refine (i_kind_f _ _ ?_).mono ?_; omega; rintro e w1 ⟨rfl, rfl⟩) | (go_at_call 31; refine (i_num_t _ _ ?_ ?_).mono ?_; omega; omega; rintro e w1 ⟨rfl, rfl⟩) | (go_at_call 31; refine (i_num_f _ _ ?_).mono ?_; omega; rintro e w1 ⟨rfl, rfl⟩) | (go_at_call 33; refine (i_in_t _ _ _ _ ?_ ?_).mono ?_; omega; omega; rintro e w1 ⟨rfl, rfl⟩) | (go_at_call 33; refine (i_in_f _ _ _ _ ?_).mono ?_; omega; rintro e w1 ⟨rfl, rfl⟩))
      go_ret
      exact ⟨rfl, Below.refl _ _⟩
  · rw [show sumV k n = _ from if_neg (fun h => hk ⟨h.1, h.2.1⟩)]
    have hk' : k < 1 ∨ 5 < k := by omega
    clear hk
    go_enter Tryd.func13, Tryd.ntmps13
    go_wp2_with (first | (go_at_call 30; refine (i_kind_t _ _ ?_ ?_).mono ?_; omega; omega; rintro e w1 ⟨rfl, rfl⟩) | (go_at_call 30; refine (i_kind_f _ _ ?_).mono ?_; omega; rintro e w1 ⟨rfl, rfl⟩) | (go_at_call 31; refine (i_num_t _ _ ?_ ?_).mono ?_; omega; omega; rintro e w1 ⟨rfl, rfl⟩) | (go_at_call 31; refine (i_num_f _ _ ?_).mono ?_; omega; rintro e w1 ⟨rfl, rfl⟩) | (go_at_call 33; refine (i_in_t _ _ _ _ ?_ ?_).mono ?_; omega; omega; rintro e w1 ⟨rfl, rfl⟩) | (go_at_call 33; refine (i_in_f _ _ _ _ ?_).mono ?_; omega; rintro e w1 ⟨rfl, rfl⟩))
    go_ret
    exact ⟨rfl, Below.refl _ _⟩
end Go.Proofs.YtobbbaagoiejeaaDoor
