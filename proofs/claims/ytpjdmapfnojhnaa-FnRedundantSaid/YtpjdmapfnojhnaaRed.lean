/- Contracts of RedundantOk and RedundantValue (program and reference). Conditions: lengths of at most 2^32. -/
import Derived.Test.YtpjdmapfnojhnaaAllIn
import Derived.Test.YtpjdmapfnojhnaaIn
import Derived.Test.YtpjdmapfnojhnaaVal
namespace Go.Proofs.Ytpjdmapfnojhnaa
open Go.RowKit
set_option linter.unusedVariables false

/-- Redundant digits in base b. -/
def RedP (b : Int) (xs : List Int) : Prop := 3 ≤ b ∧ b ≤ 16 ∧ xs.length ≤ 12 ∧ allB (-(b - 1)) (b - 1) xs = true

set_option maxHeartbeats 1000000 in
theorem i_red_t (A : Option Addr) (xs : List Int) (c : Nat) (b : Int) (w : World) (hR : RI w w.heap.size A xs) (h : RedP b xs) :
    Calls Try.prog 16 #[.slice A xs.length c, .int .i64 b] w fun e w' => e = .returned (.bool true) ∧ Below w.heap.size w w' := by
  obtain ⟨h1, h2, h3, h4⟩ := h
  have H4 := Lib.hid h4
  clear h4
  go_enter Try.func16, Try.ntmps16
  go_wp2_with (first | (go_at_call 41; refine (i_in_t _ _ _ _ ?_ ?_).mono ?_; omega; omega; rintro e w1 ⟨rfl, rfl⟩) | (go_at_call 41; refine (i_in_f _ _ _ _ ?_).mono ?_; omega; rintro e w1 ⟨rfl, rfl⟩) | (go_at_call 42; refine (allWithin_any A xs c _ _ _ hR (by omega)).mono ?_; rw [H4.out]; rintro e w1 ⟨rfl, hb1⟩))
  go_ret
  exact ⟨rfl, hb1⟩

set_option maxHeartbeats 1000000 in
theorem i_red_f (A : Option Addr) (xs : List Int) (c : Nat) (b : Int) (w : World) (hR : RI w w.heap.size A xs) (hl : xs.length ≤ 4294967296) (h : ¬ RedP b xs) :
    Calls Try.prog 16 #[.slice A xs.length c, .int .i64 b] w fun e w' => e = .returned (.bool false) ∧ Below w.heap.size w w' := by
  by_cases hb : 3 ≤ b ∧ b ≤ 16
  · obtain ⟨h1, h2⟩ := hb
    by_cases h3 : xs.length ≤ 12
    · have H4 := Lib.hid (show allB (-(b - 1)) (b - 1) xs = false by
        rw [Bool.eq_false_iff]; exact fun hh => h ⟨h1, h2, h3, hh⟩)
      clear h
      go_enter Try.func16, Try.ntmps16
      go_wp2_with (first | (go_at_call 41; refine (i_in_t _ _ _ _ ?_ ?_).mono ?_; omega; omega; rintro e w1 ⟨rfl, rfl⟩) | (go_at_call 41; refine (i_in_f _ _ _ _ ?_).mono ?_; omega; rintro e w1 ⟨rfl, rfl⟩) | (go_at_call 42; refine (allWithin_any A xs c _ _ _ hR (by omega)).mono ?_; rw [H4.out]; rintro e w1 ⟨rfl, hb1⟩))
      go_ret
      exact ⟨rfl, hb1⟩
    · clear h
      go_enter Try.func16, Try.ntmps16
      go_wp2_with (first | (go_at_call 41; refine (i_in_t _ _ _ _ ?_ ?_).mono ?_; omega; omega; rintro e w1 ⟨rfl, rfl⟩) | (go_at_call 41; refine (i_in_f _ _ _ _ ?_).mono ?_; omega; rintro e w1 ⟨rfl, rfl⟩))
      go_ret
      exact ⟨rfl, Below.refl _ _⟩
  · have hb' : b < 3 ∨ 16 < b := by omega
    clear h hb
    go_enter Try.func16, Try.ntmps16
    go_wp2_with (first | (go_at_call 41; refine (i_in_t _ _ _ _ ?_ ?_).mono ?_; omega; omega; rintro e w1 ⟨rfl, rfl⟩) | (go_at_call 41; refine (i_in_f _ _ _ _ ?_).mono ?_; omega; rintro e w1 ⟨rfl, rfl⟩))
    go_ret
    exact ⟨rfl, Below.refl _ _⟩

set_option maxHeartbeats 1000000 in
theorem s_red_t (A : Option Addr) (xs : List Int) (c : Nat) (b : Int) (w : World) (hR : RI w w.heap.size A xs) (h : RedP b xs) :
    Calls Try.prog 14 #[.slice A xs.length c, .int .i64 b] w fun e w' => e = .returned (.bool true) ∧ Below w.heap.size w w' := by
  obtain ⟨h1, h2, h3, h4⟩ := h
  have H4 := Lib.hid (allB_iff.1 h4)
  clear h4
  have h3' : decide ((12 : Int) < (xs.length : Int)) = false := by simp; omega
  go_enter Try.func14, Try.ntmps14
  go_wp2_with (first | (go_at_call 38; refine (s_in_t _ _ _ _ ?_ ?_).mono ?_; omega; omega; rintro e w1 ⟨rfl, rfl⟩) | (go_at_call 38; refine (s_in_f _ _ _ _ ?_).mono ?_; omega; rintro e w1 ⟨rfl, rfl⟩))
  go_loop [17] (fun i => ∃ k : Nat, k ≤ xs.length ∧ i = .int .i64 k) (fun i => xs.length - (intOf i).toNat)
  case atStart => exact ⟨0, Nat.zero_le _, rfl⟩
  case round =>
    obtain ⟨k, hk, rfl⟩ := hrel
    by_cases hlt : k < xs.length
    · obtain ⟨b0, off, hA, hb0, hc⟩ := hR.at_ hlt
      subst hA
      have HR := Lib.hid hR
      clear hR
      obtain ⟨d1, d2⟩ := H4.out _ (getD_mem hlt)
      obtain ⟨d, hd⟩ : ∃ d, d = xs.getD k 0 := ⟨_, rfl⟩
      rw [← hd] at hc d1 d2
      clear hd
      go_wp2_with (first | (go_at_call 38; refine (s_in_t _ _ _ _ ?_ ?_).mono ?_; omega; omega; rintro e w1 ⟨rfl, rfl⟩) | (go_at_call 38; refine (s_in_f _ _ _ _ ?_).mono ?_; omega; rintro e w1 ⟨rfl, rfl⟩))
      go_round
      case rel => exact ⟨k + 1, by omega, by go_num⟩
      case measure => simp [intOf]; omega
    · go_wp2
      go_ret
      exact ⟨rfl, Below.refl _ _⟩

set_option maxHeartbeats 1000000 in
theorem s_red_f (A : Option Addr) (xs : List Int) (c : Nat) (b : Int) (w : World) (hR : RI w w.heap.size A xs) (hl : xs.length ≤ 4294967296) (h : ¬ RedP b xs) :
    Calls Try.prog 14 #[.slice A xs.length c, .int .i64 b] w fun e w' => e = .returned (.bool false) ∧ Below w.heap.size w w' := by
  by_cases hb : 3 ≤ b ∧ b ≤ 16
  · obtain ⟨h1, h2⟩ := hb
    by_cases h3 : xs.length ≤ 12
    · have H4 := Lib.hid (show ¬ allB (-(b - 1)) (b - 1) xs = true from fun hh => h ⟨h1, h2, h3, hh⟩)
      clear h
      have h3' : decide ((12 : Int) < (xs.length : Int)) = false := by simp; omega
      go_enter Try.func14, Try.ntmps14
      go_wp2_with (first | (go_at_call 38; refine (s_in_t _ _ _ _ ?_ ?_).mono ?_; omega; omega; rintro e w1 ⟨rfl, rfl⟩) | (go_at_call 38; refine (s_in_f _ _ _ _ ?_).mono ?_; omega; rintro e w1 ⟨rfl, rfl⟩))
      go_loop [17] (fun i => ∃ k : Nat, k ≤ xs.length ∧ i = .int .i64 k ∧ Hid (∀ j, j < k → -(b - 1) ≤ xs.getD j 0 ∧ xs.getD j 0 ≤ b - 1)) (fun i => xs.length - (intOf i).toNat)
      case atStart => exact ⟨0, Nat.zero_le _, rfl, fun j hj => by omega⟩
      case round =>
        obtain ⟨k, hk, rfl, hall⟩ := hrel
        by_cases hlt : k < xs.length
        · obtain ⟨b0, off, hA, hb0, hc⟩ := hR.at_ hlt
          subst hA
          have HR := Lib.hid hR
          clear hR
          obtain ⟨d, hd⟩ : ∃ d, d = xs.getD k 0 := ⟨_, rfl⟩
          rw [← hd] at hc
          have HX := Lib.hid hd
          clear hd
          by_cases h1 : -(b - 1) ≤ d ∧ d ≤ b - 1
          · obtain ⟨d1, d2⟩ := h1
            go_wp2_with (first | (go_at_call 38; refine (s_in_t _ _ _ _ ?_ ?_).mono ?_; omega; omega; rintro e w1 ⟨rfl, rfl⟩) | (go_at_call 38; refine (s_in_f _ _ _ _ ?_).mono ?_; omega; rintro e w1 ⟨rfl, rfl⟩))
            go_round
            case rel => exact ⟨k + 1, by omega, by go_num, fun j hj => by
              by_cases e : j = k
              · subst e; rw [← HX.out]; exact ⟨d1, d2⟩
              · exact hall.out j (by omega)⟩
            case measure => simp [intOf]; omega
          · have h1' : d < 1 - b ∨ b - 1 < d := by omega
            clear h1
            go_wp2_with (first | (go_at_call 38; refine (s_in_t _ _ _ _ ?_ ?_).mono ?_; omega; omega; rintro e w1 ⟨rfl, rfl⟩) | (go_at_call 38; refine (s_in_f _ _ _ _ ?_).mono ?_; omega; rintro e w1 ⟨rfl, rfl⟩))
            go_ret
            exact ⟨rfl, Below.refl _ _⟩
        · exact absurd (allB_of fun j hj => hall.out j (by omega)) H4.out
    · clear h
      go_enter Try.func14, Try.ntmps14
      go_wp2_with (first | (go_at_call 38; refine (s_in_t _ _ _ _ ?_ ?_).mono ?_; omega; omega; rintro e w1 ⟨rfl, rfl⟩) | (go_at_call 38; refine (s_in_f _ _ _ _ ?_).mono ?_; omega; rintro e w1 ⟨rfl, rfl⟩))
      go_ret
      exact ⟨rfl, Below.refl _ _⟩
  · have hb' : b < 3 ∨ 16 < b := by omega
    clear h hb
    go_enter Try.func14, Try.ntmps14
    go_wp2_with (first | (go_at_call 38; refine (s_in_t _ _ _ _ ?_ ?_).mono ?_; omega; omega; rintro e w1 ⟨rfl, rfl⟩) | (go_at_call 38; refine (s_in_f _ _ _ _ ?_).mono ?_; omega; rintro e w1 ⟨rfl, rfl⟩))
    go_ret
    exact ⟨rfl, Below.refl _ _⟩
end Go.Proofs.Ytpjdmapfnojhnaa
