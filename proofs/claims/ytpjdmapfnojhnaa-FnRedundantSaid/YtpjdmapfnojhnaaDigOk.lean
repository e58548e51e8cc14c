/- Contracts of endsWell and DigitsOk (program and reference). Conditions: lengths of at most 2^32. -/
import Derived.Test.YtpjdmapfnojhnaaRed
namespace Go.Proofs.Ytpjdmapfnojhnaa
open Go.RowKit
set_option linter.unusedVariables false

theorem s_base_t (b : Int) (w : World) (h1 : 2 ≤ b) (h2 : b ≤ 16) : Calls Try.prog 37 #[.int .i64 b] w fun e w' => e = .returned (.bool true) ∧ w = w' := by
  go_enter Try.func37, Try.ntmps37
  go_wp2_with (first | (go_at_call 38; refine (s_in_t _ _ _ _ ?_ ?_).mono ?_; omega; omega; rintro e w1 ⟨rfl, rfl⟩) | (go_at_call 38; refine (s_in_f _ _ _ _ ?_).mono ?_; omega; rintro e w1 ⟨rfl, rfl⟩))
  go_ret
  exact ⟨rfl, rfl⟩
theorem s_base_f (b : Int) (w : World) (h : b < 2 ∨ 16 < b) : Calls Try.prog 37 #[.int .i64 b] w fun e w' => e = .returned (.bool false) ∧ w = w' := by
  go_enter Try.func37, Try.ntmps37
  go_wp2_with (first | (go_at_call 38; refine (s_in_t _ _ _ _ ?_ ?_).mono ?_; omega; omega; rintro e w1 ⟨rfl, rfl⟩) | (go_at_call 38; refine (s_in_f _ _ _ _ ?_).mono ?_; omega; rintro e w1 ⟨rfl, rfl⟩))
  go_ret
  exact ⟨rfl, rfl⟩
theorem i_base_t (b : Int) (w : World) (h1 : 2 ≤ b) (h2 : b ≤ 16) : Calls Try.prog 39 #[.int .i64 b] w fun e w' => e = .returned (.bool true) ∧ w = w' := by
  go_enter Try.func39, Try.ntmps39
  go_wp2_with (first | (go_at_call 41; refine (i_in_t _ _ _ _ ?_ ?_).mono ?_; omega; omega; rintro e w1 ⟨rfl, rfl⟩) | (go_at_call 41; refine (i_in_f _ _ _ _ ?_).mono ?_; omega; rintro e w1 ⟨rfl, rfl⟩))
  go_ret
  exact ⟨rfl, rfl⟩
theorem i_base_f (b : Int) (w : World) (h : b < 2 ∨ 16 < b) : Calls Try.prog 39 #[.int .i64 b] w fun e w' => e = .returned (.bool false) ∧ w = w' := by
  go_enter Try.func39, Try.ntmps39
  go_wp2_with (first | (go_at_call 41; refine (i_in_t _ _ _ _ ?_ ?_).mono ?_; omega; omega; rintro e w1 ⟨rfl, rfl⟩) | (go_at_call 41; refine (i_in_f _ _ _ _ ?_).mono ?_; omega; rintro e w1 ⟨rfl, rfl⟩))
  go_ret
  exact ⟨rfl, rfl⟩

/-- Nothing, or the last number is not 0. -/
def EndP (xs : List Int) : Prop := xs.length = 0 ∨ xs.getD (xs.length - 1) 0 ≠ 0
/-- Valid digits in base b. -/
def DigP (b : Int) (xs : List Int) : Prop := 2 ≤ b ∧ b ≤ 16 ∧ xs.length ≤ 60 ∧ allB 0 (b - 1) xs = true ∧ EndP xs

set_option maxHeartbeats 1000000 in
theorem i_ends (A : Option Addr) (xs : List Int) (c : Nat) (w : World) (hR : RI w w.heap.size A xs) (hl : xs.length ≤ 4294967296) (t : Bool) (ht : t = true ↔ (xs.length ≤ 60 ∧ EndP xs)) :
    Calls Try.prog 56 #[.slice A xs.length c] w fun e w' => e = .returned (.bool t) ∧ w = w' := by
  by_cases h60 : xs.length ≤ 60
  · by_cases h0 : xs.length = 0
    · have HT := Lib.hid (ht.2 ⟨h60, .inl h0⟩)
      clear ht hR hl h60
      rw [h0]
      go_enter Try.func56, Try.ntmps56
      go_wp2
      go_ret
      exact ⟨by rw [HT.out]; rfl, rfl⟩
    · obtain ⟨b0, off, hA, hb0, hc⟩ := hR.at_ (k := xs.length - 1) (by omega)
      subst hA
      obtain ⟨d, hd⟩ : ∃ d, d = xs.getD (xs.length - 1) 0 := ⟨_, rfl⟩
      have HT : Hid (t = (d != 0)) := by
        unfold Hid
        rw [Bool.eq_iff_iff, ht]
        unfold EndP
        rw [← hd]
        simp [h60, h0]
      rw [← hd] at hc
      clear ht hR hd
      have hb : ((xs.length : Int) == 0) = false := by rw [beq_eq_false_iff_ne]; omega
      go_enter Try.func56, Try.ntmps56
      go_wp2
      all_goals go_ret
      all_goals exact ⟨by rw [HT.out]; first | rfl | simp_all, rfl⟩
  · have HT := Lib.hid (show t = false by rw [Bool.eq_false_iff]; exact fun hh => h60 (ht.1 hh).1)
    clear ht hR
    go_enter Try.func56, Try.ntmps56
    go_wp2
    go_ret
    exact ⟨by rw [HT.out]; rfl, rfl⟩

noncomputable def digB (b : Int) (xs : List Int) : Bool := @decide (DigP b xs) (Classical.propDecidable _)
theorem digB_t {b : Int} {xs : List Int} (h : DigP b xs) : digB b xs = true := by unfold digB; exact @decide_eq_true _ (Classical.propDecidable _) h
theorem digB_f {b : Int} {xs : List Int} (h : ¬ DigP b xs) : digB b xs = false := by unfold digB; exact @decide_eq_false _ (Classical.propDecidable _) h

set_option maxHeartbeats 1000000 in
theorem i_digOk (A : Option Addr) (xs : List Int) (c : Nat) (b : Int) (w : World) (hR : RI w w.heap.size A xs) (hl : xs.length ≤ 4294967296) :
    Calls Try.prog 36 #[.slice A xs.length c, .int .i64 b] w fun e w' => e = .returned (.bool (digB b xs)) ∧ Below w.heap.size w w' := by
  by_cases hb : 2 ≤ b ∧ b ≤ 16
  · obtain ⟨h1, h2⟩ := hb
    by_cases he : xs.length ≤ 60 ∧ EndP xs
    · have H : Hid (digB b xs = allB 0 (b - 1) xs) := by
        unfold Hid
        cases hq : allB 0 (b - 1) xs
        · exact digB_f fun hh => by rw [hh.2.2.2.1] at hq; cases hq
        · exact digB_t ⟨h1, h2, he.1, hq, he.2⟩
      have HE := Lib.hid he
      clear he
      go_enter Try.func36, Try.ntmps36
      go_wp2_with (first | (go_at_call 41; refine (i_in_t _ _ _ _ ?_ ?_).mono ?_; omega; omega; rintro e w1 ⟨rfl, rfl⟩) | (go_at_call 41; refine (i_in_f _ _ _ _ ?_).mono ?_; omega; rintro e w1 ⟨rfl, rfl⟩) | (go_at_call 56; refine (i_ends A xs c _ hR hl true ⟨fun _ => HE.out, fun _ => rfl⟩).mono ?_; rintro e w1 ⟨rfl, rfl⟩) | (go_at_call 42; refine (allWithin_any A xs c _ _ _ hR hl).mono ?_; rw [← H.out]; rintro e w1 ⟨rfl, hb1⟩) | (go_at_call 37; refine (s_base_t _ _ ?_ ?_).mono ?_; omega; omega; rintro e w1 ⟨rfl, rfl⟩) | (go_at_call 37; refine (s_base_f _ _ ?_).mono ?_; omega; rintro e w1 ⟨rfl, rfl⟩) | (go_at_call 39; refine (i_base_t _ _ ?_ ?_).mono ?_; omega; omega; rintro e w1 ⟨rfl, rfl⟩) | (go_at_call 39; refine (i_base_f _ _ ?_).mono ?_; omega; rintro e w1 ⟨rfl, rfl⟩))
      go_ret
      exact ⟨rfl, hb1⟩
    · have H := Lib.hid (digB_f (b := b) (xs := xs) fun hh => he ⟨hh.2.2.1, hh.2.2.2.2⟩)
      have HE := Lib.hid he
      clear he
      go_enter Try.func36, Try.ntmps36
      go_wp2_with (first | (go_at_call 41; refine (i_in_t _ _ _ _ ?_ ?_).mono ?_; omega; omega; rintro e w1 ⟨rfl, rfl⟩) | (go_at_call 41; refine (i_in_f _ _ _ _ ?_).mono ?_; omega; rintro e w1 ⟨rfl, rfl⟩) | (go_at_call 56; refine (i_ends A xs c _ hR hl false ⟨fun h => Bool.noConfusion h, fun h => absurd h HE.out⟩).mono ?_; rintro e w1 ⟨rfl, rfl⟩) | (go_at_call 37; refine (s_base_t _ _ ?_ ?_).mono ?_; omega; omega; rintro e w1 ⟨rfl, rfl⟩) | (go_at_call 37; refine (s_base_f _ _ ?_).mono ?_; omega; rintro e w1 ⟨rfl, rfl⟩) | (go_at_call 39; refine (i_base_t _ _ ?_ ?_).mono ?_; omega; omega; rintro e w1 ⟨rfl, rfl⟩) | (go_at_call 39; refine (i_base_f _ _ ?_).mono ?_; omega; rintro e w1 ⟨rfl, rfl⟩))
      go_ret
      exact ⟨by rw [H.out]; rfl, Below.refl _ _⟩
  · have H := Lib.hid (digB_f (b := b) (xs := xs) fun hh => hb ⟨hh.1, hh.2.1⟩)
    have hb' : b < 2 ∨ 16 < b := by omega
    clear hb
    go_enter Try.func36, Try.ntmps36
    go_wp2_with (first | (go_at_call 41; refine (i_in_t _ _ _ _ ?_ ?_).mono ?_; omega; omega; rintro e w1 ⟨rfl, rfl⟩) | (go_at_call 41; refine (i_in_f _ _ _ _ ?_).mono ?_; omega; rintro e w1 ⟨rfl, rfl⟩) | (go_at_call 37; refine (s_base_t _ _ ?_ ?_).mono ?_; omega; omega; rintro e w1 ⟨rfl, rfl⟩) | (go_at_call 37; refine (s_base_f _ _ ?_).mono ?_; omega; rintro e w1 ⟨rfl, rfl⟩) | (go_at_call 39; refine (i_base_t _ _ ?_ ?_).mono ?_; omega; omega; rintro e w1 ⟨rfl, rfl⟩) | (go_at_call 39; refine (i_base_f _ _ ?_).mono ?_; omega; rintro e w1 ⟨rfl, rfl⟩))
    go_ret
    exact ⟨by rw [H.out]; rfl, Below.refl _ _⟩

set_option maxHeartbeats 1000000 in
theorem s_digOk (A : Option Addr) (xs : List Int) (c : Nat) (b : Int) (w : World) (hR : RI w w.heap.size A xs) (hl : xs.length ≤ 4294967296) :
    Calls Try.prog 59 #[.slice A xs.length c, .int .i64 b] w fun e w' => e = .returned (.bool (digB b xs)) ∧ Below w.heap.size w w' := by
  by_cases hb : 2 ≤ b ∧ b ≤ 16
  · obtain ⟨h1, h2⟩ := hb
    by_cases h60 : xs.length ≤ 60
    · have h3' : decide ((60 : Int) < (xs.length : Int)) = false := by simp; omega
      go_enter Try.func59, Try.ntmps59
      go_wp2_with (first | (go_at_call 38; refine (s_in_t _ _ _ _ ?_ ?_).mono ?_; omega; omega; rintro e w1 ⟨rfl, rfl⟩) | (go_at_call 38; refine (s_in_f _ _ _ _ ?_).mono ?_; omega; rintro e w1 ⟨rfl, rfl⟩) | (go_at_call 37; refine (s_base_t _ _ ?_ ?_).mono ?_; omega; omega; rintro e w1 ⟨rfl, rfl⟩) | (go_at_call 37; refine (s_base_f _ _ ?_).mono ?_; omega; rintro e w1 ⟨rfl, rfl⟩) | (go_at_call 39; refine (i_base_t _ _ ?_ ?_).mono ?_; omega; omega; rintro e w1 ⟨rfl, rfl⟩) | (go_at_call 39; refine (i_base_f _ _ ?_).mono ?_; omega; rintro e w1 ⟨rfl, rfl⟩))
      go_loop [17] (fun i => ∃ k : Nat, k ≤ xs.length ∧ i = .int .i64 k ∧ Hid (∀ j, j < k → 0 ≤ xs.getD j 0 ∧ xs.getD j 0 ≤ b - 1)) (fun i => xs.length - (intOf i).toNat)
      case atStart => exact ⟨0, Nat.zero_le _, rfl, fun j hj => by omega⟩
      case round =>
        obtain ⟨k, hk, rfl, hall⟩ := hrel
        by_cases hlt : k < xs.length
        · obtain ⟨b0, off, hA, hb0, hc⟩ := hR.at_ hlt
          subst hA
          have HR := Lib.hid hR
          clear hR
          obtain ⟨d, hd⟩ : ∃ d, d = xs.getD k 0 := ⟨_, rfl⟩
          rw [← hd] at hc
          have HX := Lib.hid hd
          clear hd
          by_cases h1 : 0 ≤ d ∧ d ≤ b - 1
          · obtain ⟨d1, d2⟩ := h1
            go_wp2_with (first | (go_at_call 38; refine (s_in_t _ _ _ _ ?_ ?_).mono ?_; omega; omega; rintro e w1 ⟨rfl, rfl⟩) | (go_at_call 38; refine (s_in_f _ _ _ _ ?_).mono ?_; omega; rintro e w1 ⟨rfl, rfl⟩))
            go_round
            case rel => exact ⟨k + 1, by omega, by go_num, fun j hj => by
              by_cases e : j = k
              · subst e; rw [← HX.out]; exact ⟨d1, d2⟩
              · exact hall.out j (by omega)⟩
            case measure => simp [intOf]; omega
          · have h1' : d < 0 ∨ b - 1 < d := by omega
            have H := Lib.hid (digB_f (b := b) (xs := xs) fun hh => by
              have := allB_iff.1 hh.2.2.2.1 _ (getD_mem hlt)
              rw [← HX.out] at this
              exact h1 this)
            clear h1
            go_wp2_with (first | (go_at_call 38; refine (s_in_t _ _ _ _ ?_ ?_).mono ?_; omega; omega; rintro e w1 ⟨rfl, rfl⟩) | (go_at_call 38; refine (s_in_f _ _ _ _ ?_).mono ?_; omega; rintro e w1 ⟨rfl, rfl⟩))
            go_ret
            exact ⟨by rw [H.out]; rfl, Below.refl _ _⟩
        · have hA := Lib.hid (allB_of (lo := 0) (hi := b - 1) (xs := xs) fun j hj => hall.out j (by omega))
          clear hall
          by_cases h0 : xs.length = 0
          · have H := Lib.hid (digB_t (b := b) (xs := xs) ⟨h1, h2, h60, hA.out, .inl h0⟩)
            have hz : ((xs.length : Int) == 0) = true := by rw [beq_iff_eq]; omega
            clear h0 hR
            go_wp2
            go_ret
            exact ⟨by rw [H.out]; rfl, Below.refl _ _⟩
          · obtain ⟨b0, off, hA', hb0, hc⟩ := hR.at_ (k := xs.length - 1) (by omega)
            subst hA'
            obtain ⟨d, hd⟩ : ∃ d, d = xs.getD (xs.length - 1) 0 := ⟨_, rfl⟩
            have H : Hid (digB b xs = (d != 0)) := by
              unfold Hid
              rw [Bool.eq_iff_iff]
              constructor
              · intro hq
                have hh : DigP b xs := Classical.byContradiction fun hn => by rw [digB_f hn] at hq; cases hq
                rcases hh.2.2.2.2 with h | h
                · exact absurd h h0
                · rw [← hd] at h; simpa using h
              · intro hq
                exact digB_t ⟨h1, h2, h60, hA.out, .inr (by rw [← hd]; simpa using hq)⟩
            rw [← hd] at hc
            clear hR hd
            have hb : ((xs.length : Int) == 0) = false := by rw [beq_eq_false_iff_ne]; omega
            go_wp2
            all_goals go_ret
            all_goals exact ⟨by rw [H.out]; first | rfl | simp_all, Below.refl _ _⟩
    · have H := Lib.hid (digB_f (b := b) (xs := xs) fun hh => h60 hh.2.2.1)
      go_enter Try.func59, Try.ntmps59
      go_wp2_with (first | (go_at_call 38; refine (s_in_t _ _ _ _ ?_ ?_).mono ?_; omega; omega; rintro e w1 ⟨rfl, rfl⟩) | (go_at_call 38; refine (s_in_f _ _ _ _ ?_).mono ?_; omega; rintro e w1 ⟨rfl, rfl⟩) | (go_at_call 37; refine (s_base_t _ _ ?_ ?_).mono ?_; omega; omega; rintro e w1 ⟨rfl, rfl⟩) | (go_at_call 37; refine (s_base_f _ _ ?_).mono ?_; omega; rintro e w1 ⟨rfl, rfl⟩) | (go_at_call 39; refine (i_base_t _ _ ?_ ?_).mono ?_; omega; omega; rintro e w1 ⟨rfl, rfl⟩) | (go_at_call 39; refine (i_base_f _ _ ?_).mono ?_; omega; rintro e w1 ⟨rfl, rfl⟩))
      go_ret
      exact ⟨by rw [H.out]; rfl, Below.refl _ _⟩
  · have H := Lib.hid (digB_f (b := b) (xs := xs) fun hh => hb ⟨hh.1, hh.2.1⟩)
    have hb' : b < 2 ∨ 16 < b := by omega
    clear hb
    go_enter Try.func59, Try.ntmps59
    go_wp2_with (first | (go_at_call 38; refine (s_in_t _ _ _ _ ?_ ?_).mono ?_; omega; omega; rintro e w1 ⟨rfl, rfl⟩) | (go_at_call 38; refine (s_in_f _ _ _ _ ?_).mono ?_; omega; rintro e w1 ⟨rfl, rfl⟩) | (go_at_call 37; refine (s_base_t _ _ ?_ ?_).mono ?_; omega; omega; rintro e w1 ⟨rfl, rfl⟩) | (go_at_call 37; refine (s_base_f _ _ ?_).mono ?_; omega; rintro e w1 ⟨rfl, rfl⟩) | (go_at_call 39; refine (i_base_t _ _ ?_ ?_).mono ?_; omega; omega; rintro e w1 ⟨rfl, rfl⟩) | (go_at_call 39; refine (i_base_f _ _ ?_).mono ?_; omega; rintro e w1 ⟨rfl, rfl⟩))
    go_ret
    exact ⟨by rw [H.out]; rfl, Below.refl _ _⟩
end Go.Proofs.Ytpjdmapfnojhnaa
