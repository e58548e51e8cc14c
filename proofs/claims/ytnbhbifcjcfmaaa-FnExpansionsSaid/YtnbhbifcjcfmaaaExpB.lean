/- Contracts of BaseOk, isFraction, l14Ok. Conditions: none. -/
import Derived.Test.YtnbhbifcjcfmaaaIn
namespace Go.Proofs.Ytnbhbifcjcfmaaa
open Go.RowKit
set_option linter.unusedVariables false

def baseB (b : Int) : Bool := decide (2 ≤ b ∧ b ≤ 16)
def frB (p q : Int) : Bool := decide (1 ≤ q ∧ q ≤ 1000 ∧ 0 ≤ p ∧ p ≤ q - 1)
def exB (p q b : Int) : Bool := decide (1 ≤ q ∧ q ≤ 1000 ∧ 0 ≤ p ∧ p ≤ q - 1 ∧ 2 ≤ b ∧ b ≤ 16)
theorem exB_iff {p q b : Int} : exB p q b = true ↔ (1 ≤ q ∧ q ≤ 1000 ∧ 0 ≤ p ∧ p ≤ q - 1 ∧ 2 ≤ b ∧ b ≤ 16) := by unfold exB; exact decide_eq_true_iff
theorem exB_and (p q b : Int) : exB p q b = (frB p q && baseB b) := by
  rw [Bool.eq_iff_iff, exB_iff]; unfold frB baseB; simp; omega

theorem i_base (b : Int) (w : World) : Calls Try.prog 39 #[.int .i64 b] w fun e w' => e = .returned (.bool (baseB b)) ∧ w = w' := by
  by_cases h : 2 ≤ b ∧ b ≤ 16
  · have H := Lib.hid (show baseB b = true from decide_eq_true h)
    obtain ⟨h1, h2⟩ := h
    go_enter Try.func39, Try.ntmps39
    go_wp2_with (first | (go_at_call 41; refine (i_in_t _ _ _ _ ?_ ?_).mono ?_; omega; omega; rintro e w1 ⟨rfl, rfl⟩) | (go_at_call 41; refine (i_in_f _ _ _ _ ?_).mono ?_; omega; rintro e w1 ⟨rfl, rfl⟩))
    go_ret
    exact ⟨by rw [H.out]; rfl, rfl⟩
  · have H := Lib.hid (show baseB b = false from decide_eq_false h)
    have h1 : b < 2 ∨ 16 < b := by omega
    clear h
    go_enter Try.func39, Try.ntmps39
    go_wp2_with (first | (go_at_call 41; refine (i_in_t _ _ _ _ ?_ ?_).mono ?_; omega; omega; rintro e w1 ⟨rfl, rfl⟩) | (go_at_call 41; refine (i_in_f _ _ _ _ ?_).mono ?_; omega; rintro e w1 ⟨rfl, rfl⟩))
    go_ret
    exact ⟨by rw [H.out]; rfl, rfl⟩

theorem s_base (b : Int) (w : World) : Calls Try.prog 56 #[.int .i64 b] w fun e w' => e = .returned (.bool (baseB b)) ∧ w = w' := by
  by_cases h : 2 ≤ b ∧ b ≤ 16
  · have H := Lib.hid (show baseB b = true from decide_eq_true h)
    obtain ⟨h1, h2⟩ := h
    go_enter Try.func56, Try.ntmps56
    go_wp2_with (first | (go_at_call 57; refine (s_in_t _ _ _ _ ?_ ?_).mono ?_; omega; omega; rintro e w1 ⟨rfl, rfl⟩) | (go_at_call 57; refine (s_in_f _ _ _ _ ?_).mono ?_; omega; rintro e w1 ⟨rfl, rfl⟩))
    go_ret
    exact ⟨by rw [H.out]; rfl, rfl⟩
  · have H := Lib.hid (show baseB b = false from decide_eq_false h)
    have h1 : b < 2 ∨ 16 < b := by omega
    clear h
    go_enter Try.func56, Try.ntmps56
    go_wp2_with (first | (go_at_call 57; refine (s_in_t _ _ _ _ ?_ ?_).mono ?_; omega; omega; rintro e w1 ⟨rfl, rfl⟩) | (go_at_call 57; refine (s_in_f _ _ _ _ ?_).mono ?_; omega; rintro e w1 ⟨rfl, rfl⟩))
    go_ret
    exact ⟨by rw [H.out]; rfl, rfl⟩

theorem i_frac (p q : Int) (w : World) : Calls Try.prog 38 #[.int .i64 p, .int .i64 q] w fun e w' => e = .returned (.bool (frB p q)) ∧ w = w' := by
  by_cases hq : 1 ≤ q ∧ q ≤ 1000
  · obtain ⟨q1, q2⟩ := hq
    by_cases hp : 0 ≤ p ∧ p ≤ q - 1
    · have H := Lib.hid (show frB p q = true from decide_eq_true ⟨q1, q2, hp.1, hp.2⟩)
      obtain ⟨p1, p2⟩ := hp
      go_enter Try.func38, Try.ntmps38
      go_wp2_with (first | (go_at_call 41; refine (i_in_t _ _ _ _ ?_ ?_).mono ?_; omega; omega; rintro e w1 ⟨rfl, rfl⟩) | (go_at_call 41; refine (i_in_f _ _ _ _ ?_).mono ?_; omega; rintro e w1 ⟨rfl, rfl⟩))
      go_ret
      exact ⟨by rw [H.out]; rfl, rfl⟩
    · have H := Lib.hid (show frB p q = false from decide_eq_false fun h => hp ⟨h.2.2.1, h.2.2.2⟩)
      have h1 : p < 0 ∨ q - 1 < p := by omega
      clear hp
      go_enter Try.func38, Try.ntmps38
      go_wp2_with (first | (go_at_call 41; refine (i_in_t _ _ _ _ ?_ ?_).mono ?_; omega; omega; rintro e w1 ⟨rfl, rfl⟩) | (go_at_call 41; refine (i_in_f _ _ _ _ ?_).mono ?_; omega; rintro e w1 ⟨rfl, rfl⟩))
      go_ret
      exact ⟨by rw [H.out]; rfl, rfl⟩
  · have H := Lib.hid (show frB p q = false from decide_eq_false fun h => hq ⟨h.1, h.2.1⟩)
    have h1 : q < 1 ∨ 1000 < q := by omega
    clear hq
    go_enter Try.func38, Try.ntmps38
    go_wp2_with (first | (go_at_call 41; refine (i_in_t _ _ _ _ ?_ ?_).mono ?_; omega; omega; rintro e w1 ⟨rfl, rfl⟩) | (go_at_call 41; refine (i_in_f _ _ _ _ ?_).mono ?_; omega; rintro e w1 ⟨rfl, rfl⟩))
    go_ret
    exact ⟨by rw [H.out]; rfl, rfl⟩

theorem s_exok (p q b : Int) (w : World) : Calls Try.prog 46 #[.int .i64 p, .int .i64 q, .int .i64 b] w fun e w' => e = .returned (.bool (exB p q b)) ∧ w = w' := by
  cases hb : baseB b
  · have H := Lib.hid (show exB p q b = false by rw [exB_and, hb, Bool.and_false])
    have HB := Lib.hid hb
    clear hb
    go_enter Try.func46, Try.ntmps46
    go_wp2_with fail
    refine (s_base b _).mono ?_
    rw [HB.out]
    rintro e w1 ⟨rfl, rfl⟩
    go_wp2
    go_ret
    exact ⟨by rw [H.out]; rfl, rfl⟩
  · have HB := Lib.hid hb
    by_cases hq : 1 ≤ q ∧ q ≤ 1000
    · obtain ⟨q1, q2⟩ := hq
      by_cases hp : 0 ≤ p ∧ p ≤ q - 1
      · have H := Lib.hid (show exB p q b = true by rw [exB_and, hb, Bool.and_true]; exact decide_eq_true ⟨q1, q2, hp.1, hp.2⟩)
        obtain ⟨p1, p2⟩ := hp
        clear hb
        go_enter Try.func46, Try.ntmps46
        go_wp2_with fail
        refine (s_base b _).mono ?_
        rw [HB.out]
        rintro e w1 ⟨rfl, rfl⟩
        go_wp2_with (first | (go_at_call 57; refine (s_in_t _ _ _ _ ?_ ?_).mono ?_; omega; omega; rintro e w1 ⟨rfl, rfl⟩) | (go_at_call 57; refine (s_in_f _ _ _ _ ?_).mono ?_; omega; rintro e w1 ⟨rfl, rfl⟩))
        go_ret
        exact ⟨by rw [H.out]; rfl, rfl⟩
      · have H := Lib.hid (show exB p q b = false from decide_eq_false fun h => hp ⟨h.2.2.1, h.2.2.2.1⟩)
        have h1 : p < 0 ∨ q - 1 < p := by omega
        clear hp hb
        go_enter Try.func46, Try.ntmps46
        go_wp2_with fail
        refine (s_base b _).mono ?_
        rw [HB.out]
        rintro e w1 ⟨rfl, rfl⟩
        go_wp2_with (first | (go_at_call 57; refine (s_in_t _ _ _ _ ?_ ?_).mono ?_; omega; omega; rintro e w1 ⟨rfl, rfl⟩) | (go_at_call 57; refine (s_in_f _ _ _ _ ?_).mono ?_; omega; rintro e w1 ⟨rfl, rfl⟩))
        go_ret
        exact ⟨by rw [H.out]; rfl, rfl⟩
    · have H := Lib.hid (show exB p q b = false from decide_eq_false fun h => hq ⟨h.1, h.2.1⟩)
      have h1 : q < 1 ∨ 1000 < q := by omega
      clear hq hb
      go_enter Try.func46, Try.ntmps46
      go_wp2_with fail
      refine (s_base b _).mono ?_
      rw [HB.out]
      rintro e w1 ⟨rfl, rfl⟩
      go_wp2_with (first | (go_at_call 57; refine (s_in_t _ _ _ _ ?_ ?_).mono ?_; omega; omega; rintro e w1 ⟨rfl, rfl⟩) | (go_at_call 57; refine (s_in_f _ _ _ _ ?_).mono ?_; omega; rintro e w1 ⟨rfl, rfl⟩))
      go_ret
      exact ⟨by rw [H.out]; rfl, rfl⟩
end Go.Proofs.Ytnbhbifcjcfmaaa
