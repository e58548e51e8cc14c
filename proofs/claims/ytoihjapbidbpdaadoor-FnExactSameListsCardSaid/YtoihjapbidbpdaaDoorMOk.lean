/- Contracts of MachineOk of both sides. Conditions: lengths of at most 2^21. -/
import Derived.Test.YtoihjapbidbpdaaDoorMach
namespace Go.Proofs.YtoihjapbidbpdaaDoor
open Go.RowKit
set_option linter.unusedVariables false

/-- A machine's parts fit. -/
noncomputable def mok (b : Int) (xs : List Int) (m : Nat) : Bool := @decide (2 ≤ b ∧ b ≤ 10 ∧ 1 ≤ m ∧ m ≤ 144 ∧ (xs.length : Int) = b * m ∧ allB 0 ((m : Int) - 1) xs = true) (Classical.propDecidable _)
theorem mok_t {b : Int} {xs : List Int} {m : Nat} (h : 2 ≤ b ∧ b ≤ 10 ∧ 1 ≤ m ∧ m ≤ 144 ∧ (xs.length : Int) = b * m ∧ allB 0 ((m : Int) - 1) xs = true) : mok b xs m = true := by
  unfold mok; exact @decide_eq_true _ (Classical.propDecidable _) h
theorem mok_f {b : Int} {xs : List Int} {m : Nat} (h : ¬ (2 ≤ b ∧ b ≤ 10 ∧ 1 ≤ m ∧ m ≤ 144 ∧ (xs.length : Int) = b * m ∧ allB 0 ((m : Int) - 1) xs = true)) : mok b xs m = false := by
  unfold mok; exact @decide_eq_false _ (Classical.propDecidable _) h
theorem mok_iff {b : Int} {xs : List Int} {m : Nat} : mok b xs m = true ↔ (2 ≤ b ∧ b ≤ 10 ∧ 1 ≤ m ∧ m ≤ 144 ∧ (xs.length : Int) = b * m ∧ allB 0 ((m : Int) - 1) xs = true) := by
  unfold mok; exact @decide_eq_true_iff _ (Classical.propDecidable _)

set_option maxHeartbeats 2000000 in
theorem impl_mok (b : Int) (N F : Option Addr) (xs : List Int) (m c d : Nat) (w : World) (hN : RI w w.heap.size N xs) (hl : xs.length ≤ 2097152) (hm : m ≤ 2097152) :
    Calls Tryd.prog 24 #[.agg #[.int .i64 b, .slice N xs.length c, .slice F m d]] w fun e w' => e = .returned (.bool (mok b xs m)) ∧ Below w.heap.size w w' := by
  have T0 := b_alloc (Below.refl w.heap.size w) (.cells #[.int .i64 b, .slice N xs.length c, .slice F m d] 28)
  have HT := Lib.hid T0
  have HN := Lib.hid hN
  clear T0 hN
  by_cases h1 : 2 ≤ b ∧ b ≤ 10
  · obtain ⟨h1, h2⟩ := h1
    by_cases h3 : 1 ≤ m ∧ m ≤ 144
    · obtain ⟨h3, h4⟩ := h3
      have p1 : 0 ≤ b * (m : Int) := Int.mul_nonneg (by omega) (by omega)
      have p2 : b * (m : Int) ≤ 10 * 144 := Int.mul_le_mul h2 (by omega) (by omega) (by omega)
      have p3 : (m : Int) * b = b * m := Int.mul_comm _ _
      by_cases h5 : (xs.length : Int) = b * m
      · have h6 : ((xs.length : Int) == b * m) = true := by simp; omega
        have h6' : ((xs.length : Int) != b * m) = false := by simp; omega
        have HL := Lib.hid h5
        clear h5
        go_enter Tryd.func24, Tryd.ntmps24
        go_wp2_with (first | (go_at_call 33; refine (i_in_t _ _ _ _ ?_ ?_).mono ?_; omega; omega; rintro e w1 ⟨rfl, rfl⟩) | (go_at_call 33; refine (i_in_f _ _ _ _ ?_).mono ?_; omega; rintro e w1 ⟨rfl, rfl⟩) | (go_at_call 34; refine (allWithin_any _ xs _ 0 ((m : Int) - 1) _ ((HN.out.below HT.out).more HT.out.size) (by omega)).mono ?_; rintro e w1 ⟨rfl, hb⟩; have HT1 := Lib.hid (b_step HT.out hb); clear hb))
        go_ret
        have e : mok b xs m = allB 0 ((m : Int) - 1) xs := by
          cases hq : allB 0 ((m : Int) - 1) xs
          · exact mok_f fun h => by rw [hq] at h; simp at h
          · exact mok_t ⟨h1, h2, h3, h4, HL.out, hq⟩
        exact ⟨by rw [e]; rfl, HT1.out⟩
      · have h6 : ((xs.length : Int) == b * m) = false := by simp; omega
        rw [mok_f (fun h => by obtain ⟨q1, q2, q3, q4, q5, q6⟩ := h; omega)]
        go_enter Tryd.func24, Tryd.ntmps24
        go_wp2_with (first | (go_at_call 33; refine (i_in_t _ _ _ _ ?_ ?_).mono ?_; omega; omega; rintro e w1 ⟨rfl, rfl⟩) | (go_at_call 33; refine (i_in_f _ _ _ _ ?_).mono ?_; omega; rintro e w1 ⟨rfl, rfl⟩))
        go_ret
        exact ⟨rfl, HT.out⟩
    · rw [mok_f (fun h => by obtain ⟨q1, q2, q3, q4, q5, q6⟩ := h; omega)]
      go_enter Tryd.func24, Tryd.ntmps24
      go_wp2_with (first | (go_at_call 33; refine (i_in_t _ _ _ _ ?_ ?_).mono ?_; omega; omega; rintro e w1 ⟨rfl, rfl⟩) | (go_at_call 33; refine (i_in_f _ _ _ _ ?_).mono ?_; omega; rintro e w1 ⟨rfl, rfl⟩))
      go_ret
      exact ⟨rfl, HT.out⟩
  · rw [mok_f (fun h => by obtain ⟨q1, q2, q3, q4, q5, q6⟩ := h; omega)]
    go_enter Tryd.func24, Tryd.ntmps24
    go_wp2_with (first | (go_at_call 33; refine (i_in_t _ _ _ _ ?_ ?_).mono ?_; omega; omega; rintro e w1 ⟨rfl, rfl⟩) | (go_at_call 33; refine (i_in_f _ _ _ _ ?_).mono ?_; omega; rintro e w1 ⟨rfl, rfl⟩))
    go_ret
    exact ⟨rfl, HT.out⟩

set_option maxHeartbeats 2000000 in
theorem spec_mok (b : Int) (N F : Option Addr) (xs : List Int) (m c d : Nat) (w : World) (hN : RI w w.heap.size N xs) (hl : xs.length ≤ 2097152) (hm : m ≤ 2097152) :
    Calls Tryd.prog 16 #[.agg #[.int .i64 b, .slice N xs.length c, .slice F m d]] w fun e w' => e = .returned (.bool (mok b xs m)) ∧ Below w.heap.size w w' := by
  have T0 := b_alloc (Below.refl w.heap.size w) (.cells #[.int .i64 b, .slice N xs.length c, .slice F m d] 28)
  have HT := Lib.hid T0
  have HN := Lib.hid hN
  clear T0 hN
  by_cases h1 : 2 ≤ b ∧ b ≤ 10
  · obtain ⟨h1, h2⟩ := h1
    by_cases h3 : 1 ≤ m ∧ m ≤ 144
    · obtain ⟨h3, h4⟩ := h3
      have p1 : 0 ≤ b * (m : Int) := Int.mul_nonneg (by omega) (by omega)
      have p2 : b * (m : Int) ≤ 10 * 144 := Int.mul_le_mul h2 (by omega) (by omega) (by omega)
      have p3 : (m : Int) * b = b * m := Int.mul_comm _ _
      by_cases h5 : (xs.length : Int) = b * m
      · have h6 : ((xs.length : Int) == b * m) = true := by simp; omega
        have h6' : ((xs.length : Int) != b * m) = false := by simp; omega
        have HL := Lib.hid h5
        clear h5
        go_enter Tryd.func16, Tryd.ntmps16
        go_wp2_with (first | (go_at_call 31; refine (s_in_t _ _ _ _ ?_ ?_).mono ?_; omega; omega; rintro e w1 ⟨rfl, rfl⟩) | (go_at_call 31; refine (s_in_f _ _ _ _ ?_).mono ?_; omega; rintro e w1 ⟨rfl, rfl⟩))
        go_loopw [31] (fun i wr => ∃ k : Nat, k ≤ xs.length ∧ i = .int .i64 k ∧ (∀ j, j < k → 0 ≤ xs.getD j 0 ∧ xs.getD j 0 ≤ (m : Int) - 1) ∧ Below w.heap.size w wr) (fun i _ => xs.length - (intOf i).toNat)
        case atStart => exact ⟨0, Nat.zero_le _, rfl, fun j hj => by omega, HT.out⟩
        case round =>
          obtain ⟨k, hk, rfl, hall, hW⟩ := hrel
          have HA := Lib.hid hall
          have HW := Lib.hid hW
          clear hall hW
          by_cases hlt : k < xs.length
          · obtain ⟨g, off, hA, hb, hc⟩ := (HN.out.below HW.out).at_ hlt
            subst hA
            obtain ⟨x, hx⟩ : ∃ x, x = xs.getD k 0 := ⟨_, rfl⟩
            rw [← hx] at hc
            have HX := Lib.hid hx
            clear hx
            by_cases hin : 0 ≤ x ∧ x ≤ (m : Int) - 1
            · obtain ⟨h7, h8⟩ := hin
              go_wp2_with (first | (go_at_call 31; refine (s_in_t _ _ _ _ ?_ ?_).mono ?_; omega; omega; rintro e w1 ⟨rfl, rfl⟩) | (go_at_call 31; refine (s_in_f _ _ _ _ ?_).mono ?_; omega; rintro e w1 ⟨rfl, rfl⟩))
              go_roundw
              case rel => exact ⟨k + 1, by omega, by go_num, fun j hj => by
                by_cases e : j = k
                · subst e; rw [← HX.out]; exact ⟨h7, h8⟩
                · exact HA.out j (by omega), HW.out⟩
              case measure => simp [intOf]; omega
            · have HF := Lib.hid (allB_not (lo := 0) (hi := (m : Int) - 1) hlt (by rw [← HX.out]; omega))
              go_wp2_with (first | (go_at_call 31; refine (s_in_t _ _ _ _ ?_ ?_).mono ?_; omega; omega; rintro e w1 ⟨rfl, rfl⟩) | (go_at_call 31; refine (s_in_f _ _ _ _ ?_).mono ?_; omega; rintro e w1 ⟨rfl, rfl⟩))
              go_ret
              exact ⟨by rw [mok_f (fun h => by rw [HF.out] at h; simp at h)]; rfl, HW.out⟩
          · have HF := Lib.hid (allB_of (lo := 0) (hi := (m : Int) - 1) (xs := xs) fun j hj => HA.out j (by omega))
            go_wp2
            go_ret
            exact ⟨by rw [mok_t ⟨h1, h2, h3, h4, HL.out, HF.out⟩]; rfl, HW.out⟩
      · have h6 : ((xs.length : Int) == b * m) = false := by simp; omega
        rw [mok_f (fun h => by obtain ⟨q1, q2, q3, q4, q5, q6⟩ := h; omega)]
        go_enter Tryd.func16, Tryd.ntmps16
        go_wp2_with (first | (go_at_call 31; refine (s_in_t _ _ _ _ ?_ ?_).mono ?_; omega; omega; rintro e w1 ⟨rfl, rfl⟩) | (go_at_call 31; refine (s_in_f _ _ _ _ ?_).mono ?_; omega; rintro e w1 ⟨rfl, rfl⟩))
        go_ret
        exact ⟨rfl, HT.out⟩
    · rw [mok_f (fun h => by obtain ⟨q1, q2, q3, q4, q5, q6⟩ := h; omega)]
      go_enter Tryd.func16, Tryd.ntmps16
      go_wp2_with (first | (go_at_call 31; refine (s_in_t _ _ _ _ ?_ ?_).mono ?_; omega; omega; rintro e w1 ⟨rfl, rfl⟩) | (go_at_call 31; refine (s_in_f _ _ _ _ ?_).mono ?_; omega; rintro e w1 ⟨rfl, rfl⟩))
      go_ret
      exact ⟨rfl, HT.out⟩
  · rw [mok_f (fun h => by obtain ⟨q1, q2, q3, q4, q5, q6⟩ := h; omega)]
    go_enter Tryd.func16, Tryd.ntmps16
    go_wp2_with (first | (go_at_call 31; refine (s_in_t _ _ _ _ ?_ ?_).mono ?_; omega; omega; rintro e w1 ⟨rfl, rfl⟩) | (go_at_call 31; refine (s_in_f _ _ _ _ ?_).mono ?_; omega; rintro e w1 ⟨rfl, rfl⟩))
    go_ret
    exact ⟨rfl, HT.out⟩

end Go.Proofs.YtoihjapbidbpdaaDoor
