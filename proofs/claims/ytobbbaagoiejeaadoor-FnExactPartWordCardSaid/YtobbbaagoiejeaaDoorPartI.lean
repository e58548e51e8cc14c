/- Values of PartWord (program). Conditions: the listed table. -/
import Derived.Test.YtobbbaagoiejeaaDoorPartS
namespace Go.Proofs.YtobbbaagoiejeaaDoor
open Go.RowKit
set_option linter.unusedVariables false

set_option maxHeartbeats 1000000 in
theorem i_pw0 (k r n : Int) (w : World) (hT : Tab w) : Calls Tryd.prog 15 #[.int .i64 k, .int .i64 0, .int .i64 r, .int .i64 n] w fun e w' => e = .returned (.string (pwV k 0 r n)) ∧ Below w.heap.size w w' := by
  by_cases hk : 1 ≤ k ∧ k ≤ 5
  · by_cases hr : 0 ≤ r ∧ r ≤ 0
    · by_cases hn : 0 ≤ n ∧ n ≤ 64
      · obtain ⟨kk, rfl⟩ := Int.eq_ofNat_of_zero_le (show 0 ≤ k by omega)
        obtain ⟨nn, rfl⟩ := Int.eq_ofNat_of_zero_le (show 0 ≤ n by omega)
        obtain ⟨rr, rfl⟩ := Int.eq_ofNat_of_zero_le (show 0 ≤ r by omega)
        rw [show pwV (kk : Nat) 0 (rr : Nat) (nn : Nat) = marksOf (wL kk rr 1 nn) from if_pos ⟨hk.1, hk.2, by decide, by decide, hr.1, hr.2, hn.1, hn.2⟩]
        have HTB := Lib.hid hT
        go_enter Tryd.func15, Tryd.ntmps15
        go_wp2_with (first | (go_at_call 30; refine (i_kind_t _ _ ?_ ?_).mono ?_; omega; omega; rintro e w1 ⟨rfl, rfl⟩) | (go_at_call 30; refine (i_kind_f _ _ ?_).mono ?_; omega; rintro e w1 ⟨rfl, rfl⟩) | (go_at_call 33; refine (i_in_t _ _ _ _ ?_ ?_).mono ?_; omega; omega; rintro e w1 ⟨rfl, rfl⟩) | (go_at_call 33; refine (i_in_f _ _ _ _ ?_).mono ?_; omega; rintro e w1 ⟨rfl, rfl⟩) | (go_at_call 35; refine (i_word kk rr 1 nn _ (by omega) (by omega) (by omega) (by omega) (by omega) HTB.out).mono ?_; rintro e w1 ⟨rfl, hb1⟩; have HB1 := Lib.hid hb1; clear hb1))
        go_ret
        exact ⟨rfl, HB1.out⟩
      · rw [show pwV k 0 r n = _ from if_neg (fun h => hn ⟨h.2.2.2.2.2.2.1, h.2.2.2.2.2.2.2⟩)]
        have hn' : n < 0 ∨ 64 < n := by omega
        obtain ⟨hk1, hk2⟩ := hk
        obtain ⟨hr1, hr2⟩ := hr
        clear hn
        go_enter Tryd.func15, Tryd.ntmps15
        go_wp2_with (first | (go_at_call 30; refine (i_kind_t _ _ ?_ ?_).mono ?_; omega; omega; rintro e w1 ⟨rfl, rfl⟩) | (go_at_call 30; refine (i_kind_f _ _ ?_).mono ?_; omega; rintro e w1 ⟨rfl, rfl⟩) | (go_at_call 33; refine (i_in_t _ _ _ _ ?_ ?_).mono ?_; omega; omega; rintro e w1 ⟨rfl, rfl⟩) | (go_at_call 33; refine (i_in_f _ _ _ _ ?_).mono ?_; omega; rintro e w1 ⟨rfl, rfl⟩) | (go_at_call 35; refine (i_word_f _ _ _ _ _ (by omega)).mono ?_; rintro e w1 ⟨rfl, rfl⟩))
        go_ret
        exact ⟨rfl, Below.refl _ _⟩
    · rw [show pwV k 0 r n = _ from if_neg (fun h => hr ⟨h.2.2.2.2.1, h.2.2.2.2.2.1⟩)]
      have hr' : r < 0 ∨ 0 < r := by omega
      obtain ⟨hk1, hk2⟩ := hk
      clear hr
      go_enter Tryd.func15, Tryd.ntmps15
      go_wp2_with (first | (go_at_call 30; refine (i_kind_t _ _ ?_ ?_).mono ?_; omega; omega; rintro e w1 ⟨rfl, rfl⟩) | (go_at_call 30; refine (i_kind_f _ _ ?_).mono ?_; omega; rintro e w1 ⟨rfl, rfl⟩) | (go_at_call 33; refine (i_in_t _ _ _ _ ?_ ?_).mono ?_; omega; omega; rintro e w1 ⟨rfl, rfl⟩) | (go_at_call 33; refine (i_in_f _ _ _ _ ?_).mono ?_; omega; rintro e w1 ⟨rfl, rfl⟩) | (go_at_call 35; refine (i_word_f _ _ _ _ _ (by omega)).mono ?_; rintro e w1 ⟨rfl, rfl⟩))
      go_ret
      exact ⟨rfl, Below.refl _ _⟩
  · rw [show pwV k 0 r n = _ from if_neg (fun h => hk ⟨h.1, h.2.1⟩)]
    have hk' : k < 1 ∨ 5 < k := by omega
    clear hk
    by_cases hr : 0 ≤ r ∧ r ≤ 0
    · obtain ⟨hr1, hr2⟩ := hr
      by_cases hn : 0 ≤ n ∧ n ≤ 64
      · obtain ⟨hn1, hn2⟩ := hn
        go_enter Tryd.func15, Tryd.ntmps15
        go_wp2_with (first | (go_at_call 30; refine (i_kind_t _ _ ?_ ?_).mono ?_; omega; omega; rintro e w1 ⟨rfl, rfl⟩) | (go_at_call 30; refine (i_kind_f _ _ ?_).mono ?_; omega; rintro e w1 ⟨rfl, rfl⟩) | (go_at_call 33; refine (i_in_t _ _ _ _ ?_ ?_).mono ?_; omega; omega; rintro e w1 ⟨rfl, rfl⟩) | (go_at_call 33; refine (i_in_f _ _ _ _ ?_).mono ?_; omega; rintro e w1 ⟨rfl, rfl⟩) | (go_at_call 35; refine (i_word_f _ _ _ _ _ (by omega)).mono ?_; rintro e w1 ⟨rfl, rfl⟩))
        go_ret
        exact ⟨rfl, Below.refl _ _⟩
      · have hn' : n < 0 ∨ 64 < n := by omega
        clear hn
        go_enter Tryd.func15, Tryd.ntmps15
        go_wp2_with (first | (go_at_call 30; refine (i_kind_t _ _ ?_ ?_).mono ?_; omega; omega; rintro e w1 ⟨rfl, rfl⟩) | (go_at_call 30; refine (i_kind_f _ _ ?_).mono ?_; omega; rintro e w1 ⟨rfl, rfl⟩) | (go_at_call 33; refine (i_in_t _ _ _ _ ?_ ?_).mono ?_; omega; omega; rintro e w1 ⟨rfl, rfl⟩) | (go_at_call 33; refine (i_in_f _ _ _ _ ?_).mono ?_; omega; rintro e w1 ⟨rfl, rfl⟩) | (go_at_call 35; refine (i_word_f _ _ _ _ _ (by omega)).mono ?_; rintro e w1 ⟨rfl, rfl⟩))
        go_ret
        exact ⟨rfl, Below.refl _ _⟩
    · have hr' : r < 0 ∨ 0 < r := by omega
      clear hr
      go_enter Tryd.func15, Tryd.ntmps15
      go_wp2_with (first | (go_at_call 30; refine (i_kind_t _ _ ?_ ?_).mono ?_; omega; omega; rintro e w1 ⟨rfl, rfl⟩) | (go_at_call 30; refine (i_kind_f _ _ ?_).mono ?_; omega; rintro e w1 ⟨rfl, rfl⟩) | (go_at_call 33; refine (i_in_t _ _ _ _ ?_ ?_).mono ?_; omega; omega; rintro e w1 ⟨rfl, rfl⟩) | (go_at_call 33; refine (i_in_f _ _ _ _ ?_).mono ?_; omega; rintro e w1 ⟨rfl, rfl⟩) | (go_at_call 35; refine (i_word_f _ _ _ _ _ (by omega)).mono ?_; rintro e w1 ⟨rfl, rfl⟩))
      go_ret
      exact ⟨rfl, Below.refl _ _⟩
set_option maxHeartbeats 1000000 in
theorem i_pw1 (k r n : Int) (w : World) (hT : Tab w) : Calls Tryd.prog 15 #[.int .i64 k, .int .i64 1, .int .i64 r, .int .i64 n] w fun e w' => e = .returned (.string (pwV k 1 r n)) ∧ Below w.heap.size w w' := by
  by_cases hk : 1 ≤ k ∧ k ≤ 5
  · by_cases hr : 0 ≤ r ∧ r ≤ 1
    · by_cases hn : 0 ≤ n ∧ n ≤ 64
      · obtain ⟨kk, rfl⟩ := Int.eq_ofNat_of_zero_le (show 0 ≤ k by omega)
        obtain ⟨nn, rfl⟩ := Int.eq_ofNat_of_zero_le (show 0 ≤ n by omega)
        obtain ⟨rr, rfl⟩ := Int.eq_ofNat_of_zero_le (show 0 ≤ r by omega)
        rw [show pwV (kk : Nat) 1 (rr : Nat) (nn : Nat) = marksOf (wL kk rr 2 nn) from if_pos ⟨hk.1, hk.2, by decide, by decide, hr.1, hr.2, hn.1, hn.2⟩]
        have HTB := Lib.hid hT
        go_enter Tryd.func15, Tryd.ntmps15
        go_wp2_with (first | (go_at_call 30; refine (i_kind_t _ _ ?_ ?_).mono ?_; omega; omega; rintro e w1 ⟨rfl, rfl⟩) | (go_at_call 30; refine (i_kind_f _ _ ?_).mono ?_; omega; rintro e w1 ⟨rfl, rfl⟩) | (go_at_call 33; refine (i_in_t _ _ _ _ ?_ ?_).mono ?_; omega; omega; rintro e w1 ⟨rfl, rfl⟩) | (go_at_call 33; refine (i_in_f _ _ _ _ ?_).mono ?_; omega; rintro e w1 ⟨rfl, rfl⟩) | (go_at_call 35; refine (i_word kk rr 2 nn _ (by omega) (by omega) (by omega) (by omega) (by omega) HTB.out).mono ?_; rintro e w1 ⟨rfl, hb1⟩; have HB1 := Lib.hid hb1; clear hb1))
        go_ret
        exact ⟨rfl, HB1.out⟩
      · rw [show pwV k 1 r n = _ from if_neg (fun h => hn ⟨h.2.2.2.2.2.2.1, h.2.2.2.2.2.2.2⟩)]
        have hn' : n < 0 ∨ 64 < n := by omega
        obtain ⟨hk1, hk2⟩ := hk
        obtain ⟨hr1, hr2⟩ := hr
        clear hn
        go_enter Tryd.func15, Tryd.ntmps15
        go_wp2_with (first | (go_at_call 30; refine (i_kind_t _ _ ?_ ?_).mono ?_; omega; omega; rintro e w1 ⟨rfl, rfl⟩) | (go_at_call 30; refine (i_kind_f _ _ ?_).mono ?_; omega; rintro e w1 ⟨rfl, rfl⟩) | (go_at_call 33; refine (i_in_t _ _ _ _ ?_ ?_).mono ?_; omega; omega; rintro e w1 ⟨rfl, rfl⟩) | (go_at_call 33; refine (i_in_f _ _ _ _ ?_).mono ?_; omega; rintro e w1 ⟨rfl, rfl⟩) | (go_at_call 35; refine (i_word_f _ _ _ _ _ (by omega)).mono ?_; rintro e w1 ⟨rfl, rfl⟩))
        go_ret
        exact ⟨rfl, Below.refl _ _⟩
    · rw [show pwV k 1 r n = _ from if_neg (fun h => hr ⟨h.2.2.2.2.1, h.2.2.2.2.2.1⟩)]
      have hr' : r < 0 ∨ 1 < r := by omega
      obtain ⟨hk1, hk2⟩ := hk
      clear hr
      go_enter Tryd.func15, Tryd.ntmps15
      go_wp2_with (first | (go_at_call 30; refine (i_kind_t _ _ ?_ ?_).mono ?_; omega; omega; rintro e w1 ⟨rfl, rfl⟩) | (go_at_call 30; refine (i_kind_f _ _ ?_).mono ?_; omega; rintro e w1 ⟨rfl, rfl⟩) | (go_at_call 33; refine (i_in_t _ _ _ _ ?_ ?_).mono ?_; omega; omega; rintro e w1 ⟨rfl, rfl⟩) | (go_at_call 33; refine (i_in_f _ _ _ _ ?_).mono ?_; omega; rintro e w1 ⟨rfl, rfl⟩) | (go_at_call 35; refine (i_word_f _ _ _ _ _ (by omega)).mono ?_; rintro e w1 ⟨rfl, rfl⟩))
      go_ret
      exact ⟨rfl, Below.refl _ _⟩
  · rw [show pwV k 1 r n = _ from if_neg (fun h => hk ⟨h.1, h.2.1⟩)]
    have hk' : k < 1 ∨ 5 < k := by omega
    clear hk
    by_cases hr : 0 ≤ r ∧ r ≤ 1
    · obtain ⟨hr1, hr2⟩ := hr
      by_cases hn : 0 ≤ n ∧ n ≤ 64
      · obtain ⟨hn1, hn2⟩ := hn
        go_enter Tryd.func15, Tryd.ntmps15
        go_wp2_with (first | (go_at_call 30; refine (i_kind_t _ _ ?_ ?_).mono ?_; omega; omega; rintro e w1 ⟨rfl, rfl⟩) | (go_at_call 30; refine (i_kind_f _ _ ?_).mono ?_; omega; rintro e w1 ⟨rfl, rfl⟩) | (go_at_call 33; refine (i_in_t _ _ _ _ ?_ ?_).mono ?_; omega; omega; rintro e w1 ⟨rfl, rfl⟩) | (go_at_call 33; refine (i_in_f _ _ _ _ ?_).mono ?_; omega; rintro e w1 ⟨rfl, rfl⟩) | (go_at_call 35; refine (i_word_f _ _ _ _ _ (by omega)).mono ?_; rintro e w1 ⟨rfl, rfl⟩))
        go_ret
        exact ⟨rfl, Below.refl _ _⟩
      · have hn' : n < 0 ∨ 64 < n := by omega
        clear hn
        go_enter Tryd.func15, Tryd.ntmps15
        go_wp2_with (first | (go_at_call 30; refine (i_kind_t _ _ ?_ ?_).mono ?_; omega; omega; rintro e w1 ⟨rfl, rfl⟩) | (go_at_call 30; refine (i_kind_f _ _ ?_).mono ?_; omega; rintro e w1 ⟨rfl, rfl⟩) | (go_at_call 33; refine (i_in_t _ _ _ _ ?_ ?_).mono ?_; omega; omega; rintro e w1 ⟨rfl, rfl⟩) | (go_at_call 33; refine (i_in_f _ _ _ _ ?_).mono ?_; omega; rintro e w1 ⟨rfl, rfl⟩) | (go_at_call 35; refine (i_word_f _ _ _ _ _ (by omega)).mono ?_; rintro e w1 ⟨rfl, rfl⟩))
        go_ret
        exact ⟨rfl, Below.refl _ _⟩
    · have hr' : r < 0 ∨ 1 < r := by omega
      clear hr
      go_enter Tryd.func15, Tryd.ntmps15
      go_wp2_with (first | (go_at_call 30; refine (i_kind_t _ _ ?_ ?_).mono ?_; omega; omega; rintro e w1 ⟨rfl, rfl⟩) | (go_at_call 30; refine (i_kind_f _ _ ?_).mono ?_; omega; rintro e w1 ⟨rfl, rfl⟩) | (go_at_call 33; refine (i_in_t _ _ _ _ ?_ ?_).mono ?_; omega; omega; rintro e w1 ⟨rfl, rfl⟩) | (go_at_call 33; refine (i_in_f _ _ _ _ ?_).mono ?_; omega; rintro e w1 ⟨rfl, rfl⟩) | (go_at_call 35; refine (i_word_f _ _ _ _ _ (by omega)).mono ?_; rintro e w1 ⟨rfl, rfl⟩))
      go_ret
      exact ⟨rfl, Below.refl _ _⟩
set_option maxHeartbeats 1000000 in
theorem i_pw2 (k r n : Int) (w : World) (hT : Tab w) : Calls Tryd.prog 15 #[.int .i64 k, .int .i64 2, .int .i64 r, .int .i64 n] w fun e w' => e = .returned (.string (pwV k 2 r n)) ∧ Below w.heap.size w w' := by
  by_cases hk : 1 ≤ k ∧ k ≤ 5
  · by_cases hr : 0 ≤ r ∧ r ≤ 3
    · by_cases hn : 0 ≤ n ∧ n ≤ 64
      · obtain ⟨kk, rfl⟩ := Int.eq_ofNat_of_zero_le (show 0 ≤ k by omega)
        obtain ⟨nn, rfl⟩ := Int.eq_ofNat_of_zero_le (show 0 ≤ n by omega)
        obtain ⟨rr, rfl⟩ := Int.eq_ofNat_of_zero_le (show 0 ≤ r by omega)
        rw [show pwV (kk : Nat) 2 (rr : Nat) (nn : Nat) = marksOf (wL kk rr 4 nn) from if_pos ⟨hk.1, hk.2, by decide, by decide, hr.1, hr.2, hn.1, hn.2⟩]
        have HTB := Lib.hid hT
        go_enter Tryd.func15, Tryd.ntmps15
        go_wp2_with (first | (go_at_call 30; refine (i_kind_t _ _ ?_ ?_).mono ?_; omega; omega; rintro e w1 ⟨rfl, rfl⟩) | (go_at_call 30; refine (i_kind_f _ _ ?_).mono ?_; omega; rintro e w1 ⟨rfl, rfl⟩) | (go_at_call 33; refine (i_in_t _ _ _ _ ?_ ?_).mono ?_; omega; omega; rintro e w1 ⟨rfl, rfl⟩) | (go_at_call 33; refine (i_in_f _ _ _ _ ?_).mono ?_; omega; rintro e w1 ⟨rfl, rfl⟩) | (go_at_call 35; refine (i_word kk rr 4 nn _ (by omega) (by omega) (by omega) (by omega) (by omega) HTB.out).mono ?_; rintro e w1 ⟨rfl, hb1⟩; have HB1 := Lib.hid hb1; clear hb1))
        go_ret
        exact ⟨rfl, HB1.out⟩
      · rw [show pwV k 2 r n = _ from if_neg (fun h => hn ⟨h.2.2.2.2.2.2.1, h.2.2.2.2.2.2.2⟩)]
        have hn' : n < 0 ∨ 64 < n := by omega
        obtain ⟨hk1, hk2⟩ := hk
        obtain ⟨hr1, hr2⟩ := hr
        clear hn
        go_enter Tryd.func15, Tryd.ntmps15
        go_wp2_with (first | (go_at_call 30; refine (i_kind_t _ _ ?_ ?_).mono ?_; omega; omega; rintro e w1 ⟨rfl, rfl⟩) | (go_at_call 30; refine (i_kind_f _ _ ?_).mono ?_; omega; rintro e w1 ⟨rfl, rfl⟩) | (go_at_call 33; refine (i_in_t _ _ _ _ ?_ ?_).mono ?_; omega; omega; rintro e w1 ⟨rfl, rfl⟩) | (go_at_call 33; refine (i_in_f _ _ _ _ ?_).mono ?_; omega; rintro e w1 ⟨rfl, rfl⟩) | (go_at_call 35; refine (i_word_f _ _ _ _ _ (by omega)).mono ?_; rintro e w1 ⟨rfl, rfl⟩))
        go_ret
        exact ⟨rfl, Below.refl _ _⟩
    · rw [show pwV k 2 r n = _ from if_neg (fun h => hr ⟨h.2.2.2.2.1, h.2.2.2.2.2.1⟩)]
      have hr' : r < 0 ∨ 3 < r := by omega
      obtain ⟨hk1, hk2⟩ := hk
      clear hr
      go_enter Tryd.func15, Tryd.ntmps15
      go_wp2_with (first | (go_at_call 30; refine (i_kind_t _ _ ?_ ?_).mono ?_; omega; omega; rintro e w1 ⟨rfl, rfl⟩) | (go_at_call 30; refine (i_kind_f _ _ ?_).mono ?_; omega; rintro e w1 ⟨rfl, rfl⟩) | (go_at_call 33; refine (i_in_t _ _ _ _ ?_ ?_).mono ?_; omega; omega; rintro e w1 ⟨rfl, rfl⟩) | (go_at_call 33; refine (i_in_f _ _ _ _ ?_).mono ?_; omega; rintro e w1 ⟨rfl, rfl⟩) | (go_at_call 35; refine (i_word_f _ _ _ _ _ (by omega)).mono ?_; rintro e w1 ⟨rfl, rfl⟩))
      go_ret
      exact ⟨rfl, Below.refl _ _⟩
  · rw [show pwV k 2 r n = _ from if_neg (fun h => hk ⟨h.1, h.2.1⟩)]
    have hk' : k < 1 ∨ 5 < k := by omega
    clear hk
    by_cases hr : 0 ≤ r ∧ r ≤ 3
    · obtain ⟨hr1, hr2⟩ := hr
      by_cases hn : 0 ≤ n ∧ n ≤ 64
      · obtain ⟨hn1, hn2⟩ := hn
        go_enter Tryd.func15, Tryd.ntmps15
        go_wp2_with (first | (go_at_call 30; refine (i_kind_t _ _ ?_ ?_).mono ?_; omega; omega; rintro e w1 ⟨rfl, rfl⟩) | (go_at_call 30; refine (i_kind_f _ _ ?_).mono ?_; omega; rintro e w1 ⟨rfl, rfl⟩) | (go_at_call 33; refine (i_in_t _ _ _ _ ?_ ?_).mono ?_; omega; omega; rintro e w1 ⟨rfl, rfl⟩) | (go_at_call 33; refine (i_in_f _ _ _ _ ?_).mono ?_; omega; rintro e w1 ⟨rfl, rfl⟩) | (go_at_call 35; refine (i_word_f _ _ _ _ _ (by omega)).mono ?_; rintro e w1 ⟨rfl, rfl⟩))
        go_ret
        exact ⟨rfl, Below.refl _ _⟩
      · have hn' : n < 0 ∨ 64 < n := by omega
        clear hn
        go_enter Tryd.func15, Tryd.ntmps15
        go_wp2_with (first | (go_at_call 30; refine (i_kind_t _ _ ?_ ?_).mono ?_; omega; omega; rintro e w1 ⟨rfl, rfl⟩) | (go_at_call 30; refine (i_kind_f _ _ ?_).mono ?_; omega; rintro e w1 ⟨rfl, rfl⟩) | (go_at_call 33; refine (i_in_t _ _ _ _ ?_ ?_).mono ?_; omega; omega; rintro e w1 ⟨rfl, rfl⟩) | (go_at_call 33; refine (i_in_f _ _ _ _ ?_).mono ?_; omega; rintro e w1 ⟨rfl, rfl⟩) | (go_at_call 35; refine (i_word_f _ _ _ _ _ (by omega)).mono ?_; rintro e w1 ⟨rfl, rfl⟩))
        go_ret
        exact ⟨rfl, Below.refl _ _⟩
    · have hr' : r < 0 ∨ 3 < r := by omega
      clear hr
      go_enter Tryd.func15, Tryd.ntmps15
      go_wp2_with (first | (go_at_call 30; refine (i_kind_t _ _ ?_ ?_).mono ?_; omega; omega; rintro e w1 ⟨rfl, rfl⟩) | (go_at_call 30; refine (i_kind_f _ _ ?_).mono ?_; omega; rintro e w1 ⟨rfl, rfl⟩) | (go_at_call 33; refine (i_in_t _ _ _ _ ?_ ?_).mono ?_; omega; omega; rintro e w1 ⟨rfl, rfl⟩) | (go_at_call 33; refine (i_in_f _ _ _ _ ?_).mono ?_; omega; rintro e w1 ⟨rfl, rfl⟩) | (go_at_call 35; refine (i_word_f _ _ _ _ _ (by omega)).mono ?_; rintro e w1 ⟨rfl, rfl⟩))
      go_ret
      exact ⟨rfl, Below.refl _ _⟩
set_option maxHeartbeats 1000000 in
theorem i_pw3 (k r n : Int) (w : World) (hT : Tab w) : Calls Tryd.prog 15 #[.int .i64 k, .int .i64 3, .int .i64 r, .int .i64 n] w fun e w' => e = .returned (.string (pwV k 3 r n)) ∧ Below w.heap.size w w' := by
  by_cases hk : 1 ≤ k ∧ k ≤ 5
  · by_cases hr : 0 ≤ r ∧ r ≤ 7
    · by_cases hn : 0 ≤ n ∧ n ≤ 64
      · obtain ⟨kk, rfl⟩ := Int.eq_ofNat_of_zero_le (show 0 ≤ k by omega)
        obtain ⟨nn, rfl⟩ := Int.eq_ofNat_of_zero_le (show 0 ≤ n by omega)
        obtain ⟨rr, rfl⟩ := Int.eq_ofNat_of_zero_le (show 0 ≤ r by omega)
        rw [show pwV (kk : Nat) 3 (rr : Nat) (nn : Nat) = marksOf (wL kk rr 8 nn) from if_pos ⟨hk.1, hk.2, by decide, by decide, hr.1, hr.2, hn.1, hn.2⟩]
        have HTB := Lib.hid hT
        go_enter Tryd.func15, Tryd.ntmps15
        go_wp2_with (first | (go_at_call 30; refine (i_kind_t _ _ ?_ ?_).mono ?_; omega; omega; rintro e w1 ⟨rfl, rfl⟩) | (go_at_call 30; refine (i_kind_f _ _ ?_).mono ?_; omega; rintro e w1 ⟨rfl, rfl⟩) | (go_at_call 33; refine (i_in_t _ _ _ _ ?_ ?_).mono ?_; omega; omega; rintro e w1 ⟨rfl, rfl⟩) | (go_at_call 33; refine (i_in_f _ _ _ _ ?_).mono ?_; omega; rintro e w1 ⟨rfl, rfl⟩) | (go_at_call 35; refine (i_word kk rr 8 nn _ (by omega) (by omega) (by omega) (by omega) (by omega) HTB.out).mono ?_; rintro e w1 ⟨rfl, hb1⟩; have HB1 := Lib.hid hb1; clear hb1))
        go_ret
        exact ⟨rfl, HB1.out⟩
      · rw [show pwV k 3 r n = _ from if_neg (fun h => hn ⟨h.2.2.2.2.2.2.1, h.2.2.2.2.2.2.2⟩)]
        have hn' : n < 0 ∨ 64 < n := by omega
        obtain ⟨hk1, hk2⟩ := hk
        obtain ⟨hr1, hr2⟩ := hr
        clear hn
        go_enter Tryd.func15, Tryd.ntmps15
        go_wp2_with (first | (go_at_call 30; refine (i_kind_t _ _ ?_ ?_).mono ?_; omega; omega; rintro e w1 ⟨rfl, rfl⟩) | (go_at_call 30; refine (i_kind_f _ _ ?_).mono ?_; omega; rintro e w1 ⟨rfl, rfl⟩) | (go_at_call 33; refine (i_in_t _ _ _ _ ?_ ?_).mono ?_; omega; omega; rintro e w1 ⟨rfl, rfl⟩) | (go_at_call 33; refine (i_in_f _ _ _ _ ?_).mono ?_; omega; rintro e w1 ⟨rfl, rfl⟩) | (go_at_call 35; refine (i_word_f _ _ _ _ _ (by omega)).mono ?_; rintro e w1 ⟨rfl, rfl⟩))
        go_ret
        exact ⟨rfl, Below.refl _ _⟩
    · rw [show pwV k 3 r n = _ from if_neg (fun h => hr ⟨h.2.2.2.2.1, h.2.2.2.2.2.1⟩)]
      have hr' : r < 0 ∨ 7 < r := by omega
      obtain ⟨hk1, hk2⟩ := hk
      clear hr
      go_enter Tryd.func15, Tryd.ntmps15
      go_wp2_with (first | (go_at_call 30; refine (i_kind_t _ _ ?_ ?_).mono ?_; omega; omega; rintro e w1 ⟨rfl, rfl⟩) | (go_at_call 30; refine (i_kind_f _ _ ?_).mono ?_; omega; rintro e w1 ⟨rfl, rfl⟩) | (go_at_call 33; refine (i_in_t _ _ _ _ ?_ ?_).mono ?_; omega; omega; rintro e w1 ⟨rfl, rfl⟩) | (go_at_call 33; refine (i_in_f _ _ _ _ ?_).mono ?_; omega; rintro e w1 ⟨rfl, rfl⟩) | (go_at_call 35; refine (i_word_f _ _ _ _ _ (by omega)).mono ?_; rintro e w1 ⟨rfl, rfl⟩))
      go_ret
      exact ⟨rfl, Below.refl _ _⟩
  · rw [show pwV k 3 r n = _ from if_neg (fun h => hk ⟨h.1, h.2.1⟩)]
    have hk' : k < 1 ∨ 5 < k := by omega
    clear hk
    by_cases hr : 0 ≤ r ∧ r ≤ 7
    · obtain ⟨hr1, hr2⟩ := hr
      by_cases hn : 0 ≤ n ∧ n ≤ 64
      · obtain ⟨hn1, hn2⟩ := hn
        go_enter Tryd.func15, Tryd.ntmps15
        go_wp2_with (first | (go_at_call 30; refine (i_kind_t _ _ ?_ ?_).mono ?_; omega; omega; rintro e w1 ⟨rfl, rfl⟩) | (go_at_call 30; refine (i_kind_f _ _ ?_).mono ?_; omega; rintro e w1 ⟨rfl, rfl⟩) | (go_at_call 33; refine (i_in_t _ _ _ _ ?_ ?_).mono ?_; omega; omega; rintro e w1 ⟨rfl, rfl⟩) | (go_at_call 33; refine (i_in_f _ _ _ _ ?_).mono ?_; omega; rintro e w1 ⟨rfl, rfl⟩) | (go_at_call 35; refine (i_word_f _ _ _ _ _ (by omega)).mono ?_; rintro e w1 ⟨rfl, rfl⟩))
        go_ret
        exact ⟨rfl, Below.refl _ _⟩
      · have hn' : n < 0 ∨ 64 < n := by omega
        clear hn
        go_enter Tryd.func15, Tryd.ntmps15
        go_wp2_with (first | (go_at_call 30; refine (i_kind_t _ _ ?_ ?_).mono ?_; omega; omega; rintro e w1 ⟨rfl, rfl⟩) | (go_at_call 30; refine (i_kind_f _ _ ?_).mono ?_; omega; rintro e w1 ⟨rfl, rfl⟩) | (go_at_call 33; refine (i_in_t _ _ _ _ ?_ ?_).mono ?_; omega; omega; rintro e w1 ⟨rfl, rfl⟩) | (go_at_call 33; refine (i_in_f _ _ _ _ ?_).mono ?_; omega; rintro e w1 ⟨rfl, rfl⟩) | (go_at_call 35; refine (i_word_f _ _ _ _ _ (by omega)).mono ?_; rintro e w1 ⟨rfl, rfl⟩))
        go_ret
        exact ⟨rfl, Below.refl _ _⟩
    · have hr' : r < 0 ∨ 7 < r := by omega
      clear hr
      go_enter Tryd.func15, Tryd.ntmps15
      go_wp2_with (first | (go_at_call 30; refine (i_kind_t _ _ ?_ ?_).mono ?_; omega; omega; rintro e w1 ⟨rfl, rfl⟩) | (go_at_call 30; refine (i_kind_f _ _ ?_).mono ?_; omega; rintro e w1 ⟨rfl, rfl⟩) | (go_at_call 33; refine (i_in_t _ _ _ _ ?_ ?_).mono ?_; omega; omega; rintro e w1 ⟨rfl, rfl⟩) | (go_at_call 33; refine (i_in_f _ _ _ _ ?_).mono ?_; omega; rintro e w1 ⟨rfl, rfl⟩) | (go_at_call 35; refine (i_word_f _ _ _ _ _ (by omega)).mono ?_; rintro e w1 ⟨rfl, rfl⟩))
      go_ret
      exact ⟨rfl, Below.refl _ _⟩
set_option maxHeartbeats 1000000 in
theorem i_pw4 (k r n : Int) (w : World) (hT : Tab w) : Calls Tryd.prog 15 #[.int .i64 k, .int .i64 4, .int .i64 r, .int .i64 n] w fun e w' => e = .returned (.string (pwV k 4 r n)) ∧ Below w.heap.size w w' := by
  by_cases hk : 1 ≤ k ∧ k ≤ 5
  · by_cases hr : 0 ≤ r ∧ r ≤ 15
    · by_cases hn : 0 ≤ n ∧ n ≤ 64
      · obtain ⟨kk, rfl⟩ := Int.eq_ofNat_of_zero_le (show 0 ≤ k by omega)
        obtain ⟨nn, rfl⟩ := Int.eq_ofNat_of_zero_le (show 0 ≤ n by omega)
        obtain ⟨rr, rfl⟩ := Int.eq_ofNat_of_zero_le (show 0 ≤ r by omega)
        rw [show pwV (kk : Nat) 4 (rr : Nat) (nn : Nat) = marksOf (wL kk rr 16 nn) from if_pos ⟨hk.1, hk.2, by decide, by decide, hr.1, hr.2, hn.1, hn.2⟩]
        have HTB := Lib.hid hT
        go_enter Tryd.func15, Tryd.ntmps15
        go_wp2_with (first | (go_at_call 30; refine (i_kind_t _ _ ?_ ?_).mono ?_; omega; omega; rintro e w1 ⟨rfl, rfl⟩) | (go_at_call 30; refine (i_kind_f _ _ ?_).mono ?_; omega; rintro e w1 ⟨rfl, rfl⟩) | (go_at_call 33; refine (i_in_t _ _ _ _ ?_ ?_).mono ?_; omega; omega; rintro e w1 ⟨rfl, rfl⟩) | (go_at_call 33; refine (i_in_f _ _ _ _ ?_).mono ?_; omega; rintro e w1 ⟨rfl, rfl⟩) | (go_at_call 35; refine (i_word kk rr 16 nn _ (by omega) (by omega) (by omega) (by omega) (by omega) HTB.out).mono ?_; rintro e w1 ⟨rfl, hb1⟩; have HB1 := Lib.hid hb1; clear hb1))
        go_ret
        exact ⟨rfl, HB1.out⟩
      · rw [show pwV k 4 r n = _ from if_neg (fun h => hn ⟨h.2.2.2.2.2.2.1, h.2.2.2.2.2.2.2⟩)]
        have hn' : n < 0 ∨ 64 < n := by omega
        obtain ⟨hk1, hk2⟩ := hk
        obtain ⟨hr1, hr2⟩ := hr
        clear hn
        go_enter Tryd.func15, Tryd.ntmps15
        go_wp2_with (first | (go_at_call 30; refine (i_kind_t _ _ ?_ ?_).mono ?_; omega; omega; rintro e w1 ⟨rfl, rfl⟩) | (go_at_call 30; refine (i_kind_f _ _ ?_).mono ?_; omega; rintro e w1 ⟨rfl, rfl⟩) | (go_at_call 33; refine (i_in_t _ _ _ _ ?_ ?_).mono ?_; omega; omega; rintro e w1 ⟨rfl, rfl⟩) | (go_at_call 33; refine (i_in_f _ _ _ _ ?_).mono ?_; omega; rintro e w1 ⟨rfl, rfl⟩) | (go_at_call 35; refine (i_word_f _ _ _ _ _ (by omega)).mono ?_; rintro e w1 ⟨rfl, rfl⟩))
        go_ret
        exact ⟨rfl, Below.refl _ _⟩
    · rw [show pwV k 4 r n = _ from if_neg (fun h => hr ⟨h.2.2.2.2.1, h.2.2.2.2.2.1⟩)]
      have hr' : r < 0 ∨ 15 < r := by omega
      obtain ⟨hk1, hk2⟩ := hk
      clear hr
      go_enter Tryd.func15, Tryd.ntmps15
      go_wp2_with (first | (go_at_call 30; refine (i_kind_t _ _ ?_ ?_).mono ?_; omega; omega; rintro e w1 ⟨rfl, rfl⟩) | (go_at_call 30; refine (i_kind_f _ _ ?_).mono ?_; omega; rintro e w1 ⟨rfl, rfl⟩) | (go_at_call 33; refine (i_in_t _ _ _ _ ?_ ?_).mono ?_; omega; omega; rintro e w1 ⟨rfl, rfl⟩) | (go_at_call 33; refine (i_in_f _ _ _ _ ?_).mono ?_; omega; rintro e w1 ⟨rfl, rfl⟩) | (go_at_call 35; refine (i_word_f _ _ _ _ _ (by omega)).mono ?_; rintro e w1 ⟨rfl, rfl⟩))
      go_ret
      exact ⟨rfl, Below.refl _ _⟩
  · rw [show pwV k 4 r n = _ from if_neg (fun h => hk ⟨h.1, h.2.1⟩)]
    have hk' : k < 1 ∨ 5 < k := by omega
    clear hk
    by_cases hr : 0 ≤ r ∧ r ≤ 15
    · obtain ⟨hr1, hr2⟩ := hr
      by_cases hn : 0 ≤ n ∧ n ≤ 64
      · obtain ⟨hn1, hn2⟩ := hn
        go_enter Tryd.func15, Tryd.ntmps15
        go_wp2_with (first | (go_at_call 30; refine (i_kind_t _ _ ?_ ?_).mono ?_; omega; omega; rintro e w1 ⟨rfl, rfl⟩) | (go_at_call 30; refine (i_kind_f _ _ ?_).mono ?_; omega; rintro e w1 ⟨rfl, rfl⟩) | (go_at_call 33; refine (i_in_t _ _ _ _ ?_ ?_).mono ?_; omega; omega; rintro e w1 ⟨rfl, rfl⟩) | (go_at_call 33; refine (i_in_f _ _ _ _ ?_).mono ?_; omega; rintro e w1 ⟨rfl, rfl⟩) | (go_at_call 35; refine (i_word_f _ _ _ _ _ (by omega)).mono ?_; rintro e w1 ⟨rfl, rfl⟩))
        go_ret
        exact ⟨rfl, Below.refl _ _⟩
      · have hn' : n < 0 ∨ 64 < n := by omega
        clear hn
        go_enter Tryd.func15, Tryd.ntmps15
        go_wp2_with (first | (go_at_call 30; refine (i_kind_t _ _ ?_ ?_).mono ?_; omega; omega; rintro e w1 ⟨rfl, rfl⟩) | (go_at_call 30; refine (i_kind_f _ _ ?_).mono ?_; omega; rintro e w1 ⟨rfl, rfl⟩) | (go_at_call 33; refine (i_in_t _ _ _ _ ?_ ?_).mono ?_; omega; omega; rintro e w1 ⟨rfl, rfl⟩) | (go_at_call 33; refine (i_in_f _ _ _ _ ?_).mono ?_; omega; rintro e w1 ⟨rfl, rfl⟩) | (go_at_call 35; refine (i_word_f _ _ _ _ _ (by omega)).mono ?_; rintro e w1 ⟨rfl, rfl⟩))
        go_ret
        exact ⟨rfl, Below.refl _ _⟩
    · have hr' : r < 0 ∨ 15 < r := by omega
      clear hr
      go_enter Tryd.func15, Tryd.ntmps15
      go_wp2_with (first | (go_at_call 30; refine (i_kind_t _ _ ?_ ?_).mono ?_; omega; omega; rintro e w1 ⟨rfl, rfl⟩) | (go_at_call 30; refine (i_kind_f _ _ ?_).mono ?_; omega; rintro e w1 ⟨rfl, rfl⟩) | (go_at_call 33; refine (i_in_t _ _ _ _ ?_ ?_).mono ?_; omega; omega; rintro e w1 ⟨rfl, rfl⟩) | (go_at_call 33; refine (i_in_f _ _ _ _ ?_).mono ?_; omega; rintro e w1 ⟨rfl, rfl⟩) | (go_at_call 35; refine (i_word_f _ _ _ _ _ (by omega)).mono ?_; rintro e w1 ⟨rfl, rfl⟩))
      go_ret
      exact ⟨rfl, Below.refl _ _⟩
set_option maxHeartbeats 1000000 in
theorem i_pw5 (k r n : Int) (w : World) (hT : Tab w) : Calls Tryd.prog 15 #[.int .i64 k, .int .i64 5, .int .i64 r, .int .i64 n] w fun e w' => e = .returned (.string (pwV k 5 r n)) ∧ Below w.heap.size w w' := by
  by_cases hk : 1 ≤ k ∧ k ≤ 5
  · by_cases hr : 0 ≤ r ∧ r ≤ 31
    · by_cases hn : 0 ≤ n ∧ n ≤ 64
      · obtain ⟨kk, rfl⟩ := Int.eq_ofNat_of_zero_le (show 0 ≤ k by omega)
        obtain ⟨nn, rfl⟩ := Int.eq_ofNat_of_zero_le (show 0 ≤ n by omega)
        obtain ⟨rr, rfl⟩ := Int.eq_ofNat_of_zero_le (show 0 ≤ r by omega)
        rw [show pwV (kk : Nat) 5 (rr : Nat) (nn : Nat) = marksOf (wL kk rr 32 nn) from if_pos ⟨hk.1, hk.2, by decide, by decide, hr.1, hr.2, hn.1, hn.2⟩]
        have HTB := Lib.hid hT
        go_enter Tryd.func15, Tryd.ntmps15
        go_wp2_with (first | (go_at_call 30; refine (i_kind_t _ _ ?_ ?_).mono ?_; omega; omega; rintro e w1 ⟨rfl, rfl⟩) | (go_at_call 30; refine (i_kind_f _ _ ?_).mono ?_; omega; rintro e w1 ⟨rfl, rfl⟩) | (go_at_call 33; refine (i_in_t _ _ _ _ ?_ ?_).mono ?_; omega; omega; rintro e w1 ⟨rfl, rfl⟩) | (go_at_call 33; refine (i_in_f _ _ _ _ ?_).mono ?_; omega; rintro e w1 ⟨rfl, rfl⟩) | (go_at_call 35; refine (i_word kk rr 32 nn _ (by omega) (by omega) (by omega) (by omega) (by omega) HTB.out).mono ?_; rintro e w1 ⟨rfl, hb1⟩; have HB1 := Lib.hid hb1; clear hb1))
        go_ret
        exact ⟨rfl, HB1.out⟩
      · rw [show pwV k 5 r n = _ from if_neg (fun h => hn ⟨h.2.2.2.2.2.2.1, h.2.2.2.2.2.2.2⟩)]
        have hn' : n < 0 ∨ 64 < n := by omega
        obtain ⟨hk1, hk2⟩ := hk
        obtain ⟨hr1, hr2⟩ := hr
        clear hn
        go_enter Tryd.func15, Tryd.ntmps15
        go_wp2_with (first | (go_at_call 30; refine (i_kind_t _ _ ?_ ?_).mono ?_; omega; omega; rintro e w1 ⟨rfl, rfl⟩) | (go_at_call 30; refine (i_kind_f _ _ ?_).mono ?_; omega; rintro e w1 ⟨rfl, rfl⟩) | (go_at_call 33; refine (i_in_t _ _ _ _ ?_ ?_).mono ?_; omega; omega; rintro e w1 ⟨rfl, rfl⟩) | (go_at_call 33; refine (i_in_f _ _ _ _ ?_).mono ?_; omega; rintro e w1 ⟨rfl, rfl⟩) | (go_at_call 35; refine (i_word_f _ _ _ _ _ (by omega)).mono ?_; rintro e w1 ⟨rfl, rfl⟩))
        go_ret
        exact ⟨rfl, Below.refl _ _⟩
    · rw [show pwV k 5 r n = _ from if_neg (fun h => hr ⟨h.2.2.2.2.1, h.2.2.2.2.2.1⟩)]
      have hr' : r < 0 ∨ 31 < r := by omega
      obtain ⟨hk1, hk2⟩ := hk
      clear hr
      go_enter Tryd.func15, Tryd.ntmps15
      go_wp2_with (first | (go_at_call 30; refine (i_kind_t _ _ ?_ ?_).mono ?_; omega; omega; rintro e w1 ⟨rfl, rfl⟩) | (go_at_call 30; refine (i_kind_f _ _ ?_).mono ?_; omega; rintro e w1 ⟨rfl, rfl⟩) | (go_at_call 33; refine (i_in_t _ _ _ _ ?_ ?_).mono ?_; omega; omega; rintro e w1 ⟨rfl, rfl⟩) | (go_at_call 33; refine (i_in_f _ _ _ _ ?_).mono ?_; omega; rintro e w1 ⟨rfl, rfl⟩) | (go_at_call 35; refine (i_word_f _ _ _ _ _ (by omega)).mono ?_; rintro e w1 ⟨rfl, rfl⟩))
      go_ret
      exact ⟨rfl, Below.refl _ _⟩
  · rw [show pwV k 5 r n = _ from if_neg (fun h => hk ⟨h.1, h.2.1⟩)]
    have hk' : k < 1 ∨ 5 < k := by omega
    clear hk
    by_cases hr : 0 ≤ r ∧ r ≤ 31
    · obtain ⟨hr1, hr2⟩ := hr
      by_cases hn : 0 ≤ n ∧ n ≤ 64
      · obtain ⟨hn1, hn2⟩ := hn
        go_enter Tryd.func15, Tryd.ntmps15
        go_wp2_with (first | (go_at_call 30; refine (i_kind_t _ _ ?_ ?_).mono ?_; omega; omega; rintro e w1 ⟨rfl, rfl⟩) | (go_at_call 30; refine (i_kind_f _ _ ?_).mono ?_; omega; rintro e w1 ⟨rfl, rfl⟩) | (go_at_call 33; refine (i_in_t _ _ _ _ ?_ ?_).mono ?_; omega; omega; rintro e w1 ⟨rfl, rfl⟩) | (go_at_call 33; refine (i_in_f _ _ _ _ ?_).mono ?_; omega; rintro e w1 ⟨rfl, rfl⟩) | (go_at_call 35; refine (i_word_f _ _ _ _ _ (by omega)).mono ?_; rintro e w1 ⟨rfl, rfl⟩))
        go_ret
        exact ⟨rfl, Below.refl _ _⟩
      · have hn' : n < 0 ∨ 64 < n := by omega
        clear hn
        go_enter Tryd.func15, Tryd.ntmps15
        go_wp2_with (first | (go_at_call 30; refine (i_kind_t _ _ ?_ ?_).mono ?_; omega; omega; rintro e w1 ⟨rfl, rfl⟩) | (go_at_call 30; refine (i_kind_f _ _ ?_).mono ?_; omega; rintro e w1 ⟨rfl, rfl⟩) | (go_at_call 33; refine (i_in_t _ _ _ _ ?_ ?_).mono ?_; omega; omega; rintro e w1 ⟨rfl, rfl⟩) | (go_at_call 33; refine (i_in_f _ _ _ _ ?_).mono ?_; omega; rintro e w1 ⟨rfl, rfl⟩) | (go_at_call 35; refine (i_word_f _ _ _ _ _ (by omega)).mono ?_; rintro e w1 ⟨rfl, rfl⟩))
        go_ret
        exact ⟨rfl, Below.refl _ _⟩
    · have hr' : r < 0 ∨ 31 < r := by omega
      clear hr
      go_enter Tryd.func15, Tryd.ntmps15
      go_wp2_with (first | (go_at_call 30; refine (i_kind_t _ _ ?_ ?_).mono ?_; omega; omega; rintro e w1 ⟨rfl, rfl⟩) | (go_at_call 30; refine (i_kind_f _ _ ?_).mono ?_; omega; rintro e w1 ⟨rfl, rfl⟩) | (go_at_call 33; refine (i_in_t _ _ _ _ ?_ ?_).mono ?_; omega; omega; rintro e w1 ⟨rfl, rfl⟩) | (go_at_call 33; refine (i_in_f _ _ _ _ ?_).mono ?_; omega; rintro e w1 ⟨rfl, rfl⟩) | (go_at_call 35; refine (i_word_f _ _ _ _ _ (by omega)).mono ?_; rintro e w1 ⟨rfl, rfl⟩))
      go_ret
      exact ⟨rfl, Below.refl _ _⟩
set_option maxHeartbeats 1000000 in
theorem i_pw6 (k r n : Int) (w : World) (hT : Tab w) : Calls Tryd.prog 15 #[.int .i64 k, .int .i64 6, .int .i64 r, .int .i64 n] w fun e w' => e = .returned (.string (pwV k 6 r n)) ∧ Below w.heap.size w w' := by
  by_cases hk : 1 ≤ k ∧ k ≤ 5
  · by_cases hr : 0 ≤ r ∧ r ≤ 63
    · by_cases hn : 0 ≤ n ∧ n ≤ 64
      · obtain ⟨kk, rfl⟩ := Int.eq_ofNat_of_zero_le (show 0 ≤ k by omega)
        obtain ⟨nn, rfl⟩ := Int.eq_ofNat_of_zero_le (show 0 ≤ n by omega)
        obtain ⟨rr, rfl⟩ := Int.eq_ofNat_of_zero_le (show 0 ≤ r by omega)
        rw [show pwV (kk : Nat) 6 (rr : Nat) (nn : Nat) = marksOf (wL kk rr 64 nn) from if_pos ⟨hk.1, hk.2, by decide, by decide, hr.1, hr.2, hn.1, hn.2⟩]
        have HTB := Lib.hid hT
        go_enter Tryd.func15, Tryd.ntmps15
        go_wp2_with (first | (go_at_call 30; refine (i_kind_t _ _ ?_ ?_).mono ?_; omega; omega; rintro e w1 ⟨rfl, rfl⟩) | (go_at_call 30; refine (i_kind_f _ _ ?_).mono ?_; omega; rintro e w1 ⟨rfl, rfl⟩) | (go_at_call 33; refine (i_in_t _ _ _ _ ?_ ?_).mono ?_; omega; omega; rintro e w1 ⟨rfl, rfl⟩) | (go_at_call 33; refine (i_in_f _ _ _ _ ?_).mono ?_; omega; rintro e w1 ⟨rfl, rfl⟩) | (go_at_call 35; refine (i_word kk rr 64 nn _ (by omega) (by omega) (by omega) (by omega) (by omega) HTB.out).mono ?_; rintro e w1 ⟨rfl, hb1⟩; have HB1 := Lib.hid hb1; clear hb1))
        go_ret
        exact ⟨rfl, HB1.out⟩
      · rw [show pwV k 6 r n = _ from if_neg (fun h => hn ⟨h.2.2.2.2.2.2.1, h.2.2.2.2.2.2.2⟩)]
        have hn' : n < 0 ∨ 64 < n := by omega
        obtain ⟨hk1, hk2⟩ := hk
        obtain ⟨hr1, hr2⟩ := hr
        clear hn
        go_enter Tryd.func15, Tryd.ntmps15
        go_wp2_with (first | (go_at_call 30; refine (i_kind_t _ _ ?_ ?_).mono ?_; omega; omega; rintro e w1 ⟨rfl, rfl⟩) | (go_at_call 30; refine (i_kind_f _ _ ?_).mono ?_; omega; rintro e w1 ⟨rfl, rfl⟩) | (go_at_call 33; refine (i_in_t _ _ _ _ ?_ ?_).mono ?_; omega; omega; rintro e w1 ⟨rfl, rfl⟩) | (go_at_call 33; refine (i_in_f _ _ _ _ ?_).mono ?_; omega; rintro e w1 ⟨rfl, rfl⟩) | (go_at_call 35; refine (i_word_f _ _ _ _ _ (by omega)).mono ?_; rintro e w1 ⟨rfl, rfl⟩))
        go_ret
        exact ⟨rfl, Below.refl _ _⟩
    · rw [show pwV k 6 r n = _ from if_neg (fun h => hr ⟨h.2.2.2.2.1, h.2.2.2.2.2.1⟩)]
      have hr' : r < 0 ∨ 63 < r := by omega
      obtain ⟨hk1, hk2⟩ := hk
      clear hr
      go_enter Tryd.func15, Tryd.ntmps15
      go_wp2_with (first | (go_at_call 30; refine (i_kind_t _ _ ?_ ?_).mono ?_; omega; omega; rintro e w1 ⟨rfl, rfl⟩) | (go_at_call 30; refine (i_kind_f _ _ ?_).mono ?_; omega; rintro e w1 ⟨rfl, rfl⟩) | (go_at_call 33; refine (i_in_t _ _ _ _ ?_ ?_).mono ?_; omega; omega; rintro e w1 ⟨rfl, rfl⟩) | (go_at_call 33; refine (i_in_f _ _ _ _ ?_).mono ?_; omega; rintro e w1 ⟨rfl, rfl⟩) | (go_at_call 35; refine (i_word_f _ _ _ _ _ (by omega)).mono ?_; rintro e w1 ⟨rfl, rfl⟩))
      go_ret
      exact ⟨rfl, Below.refl _ _⟩
  · rw [show pwV k 6 r n = _ from if_neg (fun h => hk ⟨h.1, h.2.1⟩)]
    have hk' : k < 1 ∨ 5 < k := by omega
    clear hk
    by_cases hr : 0 ≤ r ∧ r ≤ 63
    · obtain ⟨hr1, hr2⟩ := hr
      by_cases hn : 0 ≤ n ∧ n ≤ 64
      · obtain ⟨hn1, hn2⟩ := hn
        go_enter Tryd.func15, Tryd.ntmps15
        go_wp2_with (first | (go_at_call 30; refine (i_kind_t _ _ ?_ ?_).mono ?_; omega; omega; rintro e w1 ⟨rfl, rfl⟩) | (go_at_call 30; refine (i_kind_f _ _ ?_).mono ?_; omega; rintro e w1 ⟨rfl, rfl⟩) | (go_at_call 33; refine (i_in_t _ _ _ _ ?_ ?_).mono ?_; omega; omega; rintro e w1 ⟨rfl, rfl⟩) | (go_at_call 33; refine (i_in_f _ _ _ _ ?_).mono ?_; omega; rintro e w1 ⟨rfl, rfl⟩) | (go_at_call 35; refine (i_word_f _ _ _ _ _ (by omega)).mono ?_; rintro e w1 ⟨rfl, rfl⟩))
        go_ret
        exact ⟨rfl, Below.refl _ _⟩
      · have hn' : n < 0 ∨ 64 < n := by omega
        clear hn
        go_enter Tryd.func15, Tryd.ntmps15
        go_wp2_with (first | (go_at_call 30; refine (i_kind_t _ _ ?_ ?_).mono ?_; omega; omega; rintro e w1 ⟨rfl, rfl⟩) | (go_at_call 30; refine (i_kind_f _ _ ?_).mono ?_; omega; rintro e w1 ⟨rfl, rfl⟩) | (go_at_call 33; refine (i_in_t _ _ _ _ ?_ ?_).mono ?_; omega; omega; rintro e w1 ⟨rfl, rfl⟩) | (go_at_call 33; refine (i_in_f _ _ _ _ ?_).mono ?_; omega; rintro e w1 ⟨rfl, rfl⟩) | (go_at_call 35; refine (i_word_f _ _ _ _ _ (by omega)).mono ?_; rintro e w1 ⟨rfl, rfl⟩))
        go_ret
        exact ⟨rfl, Below.refl _ _⟩
    · have hr' : r < 0 ∨ 63 < r := by omega
      clear hr
      go_enter Tryd.func15, Tryd.ntmps15
      go_wp2_with (first | (go_at_call 30; refine (i_kind_t _ _ ?_ ?_).mono ?_; omega; omega; rintro e w1 ⟨rfl, rfl⟩) | (go_at_call 30; refine (i_kind_f _ _ ?_).mono ?_; omega; rintro e w1 ⟨rfl, rfl⟩) | (go_at_call 33; refine (i_in_t _ _ _ _ ?_ ?_).mono ?_; omega; omega; rintro e w1 ⟨rfl, rfl⟩) | (go_at_call 33; refine (i_in_f _ _ _ _ ?_).mono ?_; omega; rintro e w1 ⟨rfl, rfl⟩) | (go_at_call 35; refine (i_word_f _ _ _ _ _ (by omega)).mono ?_; rintro e w1 ⟨rfl, rfl⟩))
      go_ret
      exact ⟨rfl, Below.refl _ _⟩
set_option maxHeartbeats 1000000 in
theorem i_PartWord (k i r n : Int) (w : World) (hT : Tab w) : Calls Tryd.prog 15 #[.int .i64 k, .int .i64 i, .int .i64 r, .int .i64 n] w fun e w' => e = .returned (.string (pwV k i r n)) ∧ Below w.heap.size w w' := by
  by_cases hi : 0 ≤ i ∧ i ≤ 6
  · have hc : i = 0 ∨ i = 1 ∨ i = 2 ∨ i = 3 ∨ i = 4 ∨ i = 5 ∨ i = 6 := by omega
    rcases hc with rfl | rfl | rfl | rfl | rfl | rfl | rfl
    · exact i_pw0 k r n w hT
    · exact i_pw1 k r n w hT
    · exact i_pw2 k r n w hT
    · exact i_pw3 k r n w hT
    · exact i_pw4 k r n w hT
    · exact i_pw5 k r n w hT
    · exact i_pw6 k r n w hT
  · rw [show pwV k i r n = _ from if_neg (fun h => hi ⟨h.2.2.1, h.2.2.2.1⟩)]
    have hi' : i < 0 ∨ 6 < i := by omega
    clear hi
    by_cases hk : 1 ≤ k ∧ k ≤ 5
    · obtain ⟨hk1, hk2⟩ := hk
      go_enter Tryd.func15, Tryd.ntmps15
      go_wp2_with (first | (go_at_call 30; refine (i_kind_t _ _ ?_ ?_).mono ?_; omega; omega; rintro e w1 ⟨rfl, rfl⟩) | (go_at_call 30; refine (i_kind_f _ _ ?_).mono ?_; omega; rintro e w1 ⟨rfl, rfl⟩) | (go_at_call 33; refine (i_in_t _ _ _ _ ?_ ?_).mono ?_; omega; omega; rintro e w1 ⟨rfl, rfl⟩) | (go_at_call 33; refine (i_in_f _ _ _ _ ?_).mono ?_; omega; rintro e w1 ⟨rfl, rfl⟩) | (go_at_call 35; refine (i_word_f _ _ _ _ _ (by omega)).mono ?_; rintro e w1 ⟨rfl, rfl⟩))
      go_ret
      exact ⟨rfl, Below.refl _ _⟩
    · have hk' : k < 1 ∨ 5 < k := by omega
      clear hk
      go_enter Tryd.func15, Tryd.ntmps15
      go_wp2_with (first | (go_at_call 30; refine (i_kind_t _ _ ?_ ?_).mono ?_; omega; omega; rintro e w1 ⟨rfl, rfl⟩) | (go_at_call 30; refine (i_kind_f _ _ ?_).mono ?_; omega; rintro e w1 ⟨rfl, rfl⟩) | (go_at_call 33; refine (i_in_t _ _ _ _ ?_ ?_).mono ?_; omega; omega; rintro e w1 ⟨rfl, rfl⟩) | (go_at_call 33; refine (i_in_f _ _ _ _ ?_).mono ?_; omega; rintro e w1 ⟨rfl, rfl⟩) | (go_at_call 35; refine (i_word_f _ _ _ _ _ (by omega)).mono ?_; rintro e w1 ⟨rfl, rfl⟩))
      go_ret
      exact ⟨rfl, Below.refl _ _⟩
end Go.Proofs.YtobbbaagoiejeaaDoor
