/- Values of SequenceWord and PartWord. Conditions: the listed table. -/
import Derived.Test.YtobbbaagoiejeaaDoorWord
namespace Go.Proofs.YtobbbaagoiejeaaDoor
open Go.RowKit
set_option linter.unusedVariables false

theorem i_word_f (k r s n : Int) (w : World) (h : k < 1 ∨ 5 < k) :
    Calls Tryd.prog 35 #[.int .i64 k, .int .i64 r, .int .i64 s, .int .i64 n] w fun e w' => e = .returned (.string ByteArray.empty) ∧ w = w' := by
  go_enter Tryd.func35, Tryd.ntmps35
  go_wp2_with (first | (go_at_call 30; refine (i_kind_t _ _ ?_ ?_).mono ?_; omega; omega; rintro e w1 ⟨rfl, rfl⟩) | (go_at_call 30; refine (i_kind_f _ _ ?_).mono ?_; omega; rintro e w1 ⟨rfl, rfl⟩))
  go_ret
  exact ⟨rfl, rfl⟩
def wordV (k n : Int) : ByteArray := if 1 ≤ k ∧ k ≤ 5 ∧ 0 ≤ n ∧ n ≤ 256 then marksOf (wL k.toNat 0 1 n.toNat) else ByteArray.empty
def pwV (k i r n : Int) : ByteArray := if 1 ≤ k ∧ k ≤ 5 ∧ 0 ≤ i ∧ i ≤ 6 ∧ 0 ≤ r ∧ r ≤ 2 ^ i.toNat - 1 ∧ 0 ≤ n ∧ n ≤ 64 then marksOf (wL k.toNat r.toNat (2 ^ i.toNat) n.toNat) else ByteArray.empty
set_option maxHeartbeats 1000000 in
theorem s_SequenceWord (k n : Int) (w : World) : Calls Tryd.prog 16 #[.int .i64 k, .int .i64 n] w fun e w' => e = .returned (.string (wordV k n)) ∧ Below w.heap.size w w' := by
  by_cases hn : 0 ≤ n ∧ n ≤ 256
  · by_cases hk : 1 ≤ k ∧ k ≤ 5
    · obtain ⟨kk, rfl⟩ := Int.eq_ofNat_of_zero_le (show 0 ≤ k by omega)
      obtain ⟨nn, rfl⟩ := Int.eq_ofNat_of_zero_le (show 0 ≤ n by omega)
      rw [show wordV (kk : Nat) (nn : Nat) = _ from if_pos ⟨hk.1, hk.2, hn.1, hn.2⟩]
      simp only [Int.toNat_natCast]
      go_enter Tryd.func16, Tryd.ntmps16
      go_wp2_with (first | (go_at_call 27; refine (s_kind_t _ _ ?_ ?_).mono ?_; omega; omega; rintro e w1 ⟨rfl, rfl⟩) | (go_at_call 27; refine (s_kind_f _ _ ?_).mono ?_; omega; rintro e w1 ⟨rfl, rfl⟩) | (go_at_call 28; refine (s_in_t _ _ _ _ ?_ ?_).mono ?_; omega; omega; rintro e w1 ⟨rfl, rfl⟩) | (go_at_call 28; refine (s_in_f _ _ _ _ ?_).mono ?_; omega; rintro e w1 ⟨rfl, rfl⟩) | (go_at_call 34; refine (s_word kk 0 1 nn _ (by omega) (by omega) (by omega) (by omega) (by omega)).mono ?_; rintro e w1 ⟨rfl, hb1⟩; have HB1 := Lib.hid hb1; clear hb1))
      go_ret
      exact ⟨rfl, HB1.out⟩
    · rw [show wordV k n = _ from if_neg (fun h => hk ⟨h.1, h.2.1⟩)]
      have hk' : k < 1 ∨ 5 < k := by omega
      obtain ⟨hn1, hn2⟩ := hn
      clear hk
      go_enter Tryd.func16, Tryd.ntmps16
      go_wp2_with (first | (go_at_call 27; refine (s_kind_t _ _ ?_ ?_).mono ?_; omega; omega; rintro e w1 ⟨rfl, rfl⟩) | (go_at_call 27; refine (s_kind_f _ _ ?_).mono ?_; omega; rintro e w1 ⟨rfl, rfl⟩) | (go_at_call 28; refine (s_in_t _ _ _ _ ?_ ?_).mono ?_; omega; omega; rintro e w1 ⟨rfl, rfl⟩) | (go_at_call 28; refine (s_in_f _ _ _ _ ?_).mono ?_; omega; rintro e w1 ⟨rfl, rfl⟩))
      go_ret
      exact ⟨rfl, Below.refl _ _⟩
  · have hn' : n < 0 ∨ 256 < n := by omega
    rw [show wordV k n = _ from if_neg (fun h => hn ⟨h.2.2.1, h.2.2.2⟩)]
    clear hn
    by_cases hk : 1 ≤ k ∧ k ≤ 5
    · obtain ⟨hk1, hk2⟩ := hk
      go_enter Tryd.func16, Tryd.ntmps16
      go_wp2_with (first | (go_at_call 27; refine (s_kind_t _ _ ?_ ?_).mono ?_; omega; omega; rintro e w1 ⟨rfl, rfl⟩) | (go_at_call 27; refine (s_kind_f _ _ ?_).mono ?_; omega; rintro e w1 ⟨rfl, rfl⟩) | (go_at_call 28; refine (s_in_t _ _ _ _ ?_ ?_).mono ?_; omega; omega; rintro e w1 ⟨rfl, rfl⟩) | (go_at_call 28; refine (s_in_f _ _ _ _ ?_).mono ?_; omega; rintro e w1 ⟨rfl, rfl⟩))
      go_ret
      exact ⟨rfl, Below.refl _ _⟩
    · have hk' : k < 1 ∨ 5 < k := by omega
      clear hk
      go_enter Tryd.func16, Tryd.ntmps16
      go_wp2_with (first | (go_at_call 27; refine (s_kind_t _ _ ?_ ?_).mono ?_; omega; omega; rintro e w1 ⟨rfl, rfl⟩) | (go_at_call 27; refine (s_kind_f _ _ ?_).mono ?_; omega; rintro e w1 ⟨rfl, rfl⟩) | (go_at_call 28; refine (s_in_t _ _ _ _ ?_ ?_).mono ?_; omega; omega; rintro e w1 ⟨rfl, rfl⟩) | (go_at_call 28; refine (s_in_f _ _ _ _ ?_).mono ?_; omega; rintro e w1 ⟨rfl, rfl⟩))
      go_ret
      exact ⟨rfl, Below.refl _ _⟩
set_option maxHeartbeats 1000000 in
theorem i_SequenceWord (k n : Int) (w : World) (hT : Tab w) : Calls Tryd.prog 17 #[.int .i64 k, .int .i64 n] w fun e w' => e = .returned (.string (wordV k n)) ∧ Below w.heap.size w w' := by
  by_cases hn : 0 ≤ n ∧ n ≤ 256
  · by_cases hk : 1 ≤ k ∧ k ≤ 5
    · obtain ⟨kk, rfl⟩ := Int.eq_ofNat_of_zero_le (show 0 ≤ k by omega)
      obtain ⟨nn, rfl⟩ := Int.eq_ofNat_of_zero_le (show 0 ≤ n by omega)
      rw [show wordV (kk : Nat) (nn : Nat) = _ from if_pos ⟨hk.1, hk.2, hn.1, hn.2⟩]
      simp only [Int.toNat_natCast]
      have HTB := Lib.hid hT
      go_enter Tryd.func17, Tryd.ntmps17
      go_wp2_with (first | (go_at_call 30; refine (i_kind_t _ _ ?_ ?_).mono ?_; omega; omega; rintro e w1 ⟨rfl, rfl⟩) | (go_at_call 30; refine (i_kind_f _ _ ?_).mono ?_; omega; rintro e w1 ⟨rfl, rfl⟩) | (go_at_call 33; refine (i_in_t _ _ _ _ ?_ ?_).mono ?_; omega; omega; rintro e w1 ⟨rfl, rfl⟩) | (go_at_call 33; refine (i_in_f _ _ _ _ ?_).mono ?_; omega; rintro e w1 ⟨rfl, rfl⟩) | (go_at_call 35; refine (i_word kk 0 1 nn _ (by omega) (by omega) (by omega) (by omega) (by omega) HTB.out).mono ?_; rintro e w1 ⟨rfl, hb1⟩; have HB1 := Lib.hid hb1; clear hb1))
      go_ret
      exact ⟨rfl, HB1.out⟩
    · rw [show wordV k n = _ from if_neg (fun h => hk ⟨h.1, h.2.1⟩)]
      have hk' : k < 1 ∨ 5 < k := by omega
      obtain ⟨hn1, hn2⟩ := hn
      clear hk
      go_enter Tryd.func17, Tryd.ntmps17
      go_wp2_with (first | (go_at_call 30; refine (i_kind_t _ _ ?_ ?_).mono ?_; omega; omega; rintro e w1 ⟨rfl, rfl⟩) | (go_at_call 30; refine (i_kind_f _ _ ?_).mono ?_; omega; rintro e w1 ⟨rfl, rfl⟩) | (go_at_call 33; refine (i_in_t _ _ _ _ ?_ ?_).mono ?_; omega; omega; rintro e w1 ⟨rfl, rfl⟩) | (go_at_call 33; refine (i_in_f _ _ _ _ ?_).mono ?_; omega; rintro e w1 ⟨rfl, rfl⟩) | (go_at_call 35; refine (i_word_f _ _ _ _ _ (by omega)).mono ?_; rintro e w1 ⟨rfl, rfl⟩))
      go_ret
      exact ⟨rfl, Below.refl _ _⟩
  · have hn' : n < 0 ∨ 256 < n := by omega
    rw [show wordV k n = _ from if_neg (fun h => hn ⟨h.2.2.1, h.2.2.2⟩)]
    clear hn
    by_cases hk : 1 ≤ k ∧ k ≤ 5
    · obtain ⟨hk1, hk2⟩ := hk
      go_enter Tryd.func17, Tryd.ntmps17
      go_wp2_with (first | (go_at_call 30; refine (i_kind_t _ _ ?_ ?_).mono ?_; omega; omega; rintro e w1 ⟨rfl, rfl⟩) | (go_at_call 30; refine (i_kind_f _ _ ?_).mono ?_; omega; rintro e w1 ⟨rfl, rfl⟩) | (go_at_call 33; refine (i_in_t _ _ _ _ ?_ ?_).mono ?_; omega; omega; rintro e w1 ⟨rfl, rfl⟩) | (go_at_call 33; refine (i_in_f _ _ _ _ ?_).mono ?_; omega; rintro e w1 ⟨rfl, rfl⟩) | (go_at_call 35; refine (i_word_f _ _ _ _ _ (by omega)).mono ?_; rintro e w1 ⟨rfl, rfl⟩))
      go_ret
      exact ⟨rfl, Below.refl _ _⟩
    · have hk' : k < 1 ∨ 5 < k := by omega
      clear hk
      go_enter Tryd.func17, Tryd.ntmps17
      go_wp2_with (first | (go_at_call 30; refine (i_kind_t _ _ ?_ ?_).mono ?_; omega; omega; rintro e w1 ⟨rfl, rfl⟩) | (go_at_call 30; refine (i_kind_f _ _ ?_).mono ?_; omega; rintro e w1 ⟨rfl, rfl⟩) | (go_at_call 33; refine (i_in_t _ _ _ _ ?_ ?_).mono ?_; omega; omega; rintro e w1 ⟨rfl, rfl⟩) | (go_at_call 33; refine (i_in_f _ _ _ _ ?_).mono ?_; omega; rintro e w1 ⟨rfl, rfl⟩) | (go_at_call 35; refine (i_word_f _ _ _ _ _ (by omega)).mono ?_; rintro e w1 ⟨rfl, rfl⟩))
      go_ret
      exact ⟨rfl, Below.refl _ _⟩
end Go.Proofs.YtobbbaagoiejeaaDoor
