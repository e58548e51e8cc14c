/- Contracts of PadicOk (program and reference). Conditions: lengths of at most 2^32. -/
import Derived.Test.YtjdfpodmjpkfpaaPrime
import Derived.Test.YtjdfpodmjpkfpaaAllIn
import Derived.Test.YtjdfpodmjpkfpaaIn
import Derived.Test.YtjdfpodmjpkfpaaValW
namespace Go.Proofs.Ytjdfpodmjpkfpaa
open Go.RowKit
set_option linter.unusedVariables false

/-- Valid p-adic digits. -/
def PadP (p : Int) (xs : List Int) : Prop := primeB p = true ∧ 1 ≤ xs.length ∧ xs.length ≤ 8 ∧ allB 0 (p - 1) xs = true
noncomputable def padB (p : Int) (xs : List Int) : Bool := @decide (PadP p xs) (Classical.propDecidable _)
theorem padB_t {b : Int} {xs : List Int} (h : PadP b xs) : padB b xs = true := by unfold padB; exact @decide_eq_true _ (Classical.propDecidable _) h
theorem padB_f {b : Int} {xs : List Int} (h : ¬ PadP b xs) : padB b xs = false := by unfold padB; exact @decide_eq_false _ (Classical.propDecidable _) h
theorem padB_iff {b : Int} {xs : List Int} : padB b xs = true ↔ PadP b xs := by
  constructor
  · intro h; exact Classical.byContradiction fun hn => by rw [padB_f hn] at h; cases h
  · exact padB_t

set_option maxHeartbeats 1000000 in
theorem i_padOk (A : Option Addr) (xs : List Int) (c : Nat) (p : Int) (w : World) (hR : RI w w.heap.size A xs) (hl : xs.length ≤ 4294967296) :
    Calls Try.prog 18 #[.slice A xs.length c, .int .i64 p] w fun e w' => e = .returned (.bool (padB p xs)) ∧ Below w.heap.size w w' := by
  cases hp : primeB p
  · have HPR := Lib.hid hp
    have H := Lib.hid (padB_f (b := p) (xs := xs) fun hh => by rw [hh.1] at hp; cases hp)
    clear hp
    go_enter Try.func18, Try.ntmps18
    go_wp2_with (first | (go_at_call 44; refine (i_prime p _).mono ?_; rw [HPR.out]; rintro e w1 ⟨rfl, hb1⟩))
    go_ret
    exact ⟨by rw [H.out]; rfl, hb1⟩
  · have HPR := Lib.hid hp
    obtain ⟨p1, p2⟩ := primeB_bd hp
    by_cases hn : 1 ≤ xs.length ∧ xs.length ≤ 8
    · obtain ⟨n1, n2⟩ := hn
      have H : Hid (padB p xs = allB 0 (p - 1) xs) := by
        unfold Hid
        cases hq : allB 0 (p - 1) xs
        · exact padB_f fun hh => by rw [hh.2.2.2] at hq; cases hq
        · exact padB_t ⟨hp, n1, n2, hq⟩
      clear hp
      go_enter Try.func18, Try.ntmps18
      go_wp2_with fail
      refine (i_prime p _).mono ?_
      rw [HPR.out]
      rintro e w1 ⟨rfl, hb1⟩
      have R1 := (hR.below hb1).more hb1.size
      have T1 := b_step (Below.refl _ _) hb1
      clear hb1 hR
      go_wp2_with (first | (go_at_call 45; refine (i_in_t _ _ _ _ ?_ ?_).mono ?_; omega; omega; rintro e w1 ⟨rfl, rfl⟩) | (go_at_call 45; refine (i_in_f _ _ _ _ ?_).mono ?_; omega; rintro e w1 ⟨rfl, rfl⟩) | (go_at_call 46; refine (allWithin_any A xs c _ _ _ R1 hl).mono ?_; rw [← H.out]; rintro e w2 ⟨rfl, hb2⟩))
      go_ret
      exact ⟨rfl, b_step T1 hb2⟩
    · have hn' : ((xs.length : Int) < 1) ∨ (8 : Int) < xs.length := by omega
      have H := Lib.hid (padB_f (b := p) (xs := xs) fun hh => hn ⟨hh.2.1, hh.2.2.1⟩)
      clear hp hn
      go_enter Try.func18, Try.ntmps18
      go_wp2_with fail
      refine (i_prime p _).mono ?_
      rw [HPR.out]
      rintro e w1 ⟨rfl, hb1⟩
      have T1 := b_step (Below.refl _ _) hb1
      clear hb1
      go_wp2_with (first | (go_at_call 45; refine (i_in_t _ _ _ _ ?_ ?_).mono ?_; omega; omega; rintro e w1 ⟨rfl, rfl⟩) | (go_at_call 45; refine (i_in_f _ _ _ _ ?_).mono ?_; omega; rintro e w1 ⟨rfl, rfl⟩))
      go_ret
      exact ⟨by rw [H.out]; rfl, T1⟩

set_option maxHeartbeats 1000000 in
theorem s_padOk (A : Option Addr) (xs : List Int) (c : Nat) (p : Int) (w : World) (hR : RI w w.heap.size A xs) (hl : xs.length ≤ 4294967296) :
    Calls Try.prog 16 #[.slice A xs.length c, .int .i64 p] w fun e w' => e = .returned (.bool (padB p xs)) ∧ Below w.heap.size w w' := by
  cases hp : primeB p
  · have HPR := Lib.hid hp
    have H := Lib.hid (padB_f (b := p) (xs := xs) fun hh => by rw [hh.1] at hp; cases hp)
    clear hp
    go_enter Try.func16, Try.ntmps16
    go_wp2_with (first | (go_at_call 42; refine (s_prime p _).mono ?_; rw [HPR.out]; rintro e w1 ⟨rfl, rfl⟩))
    go_ret
    exact ⟨by rw [H.out]; rfl, Below.refl _ _⟩
  · have HPR := Lib.hid hp
    obtain ⟨p1, p2⟩ := primeB_bd hp
    by_cases hn : 1 ≤ xs.length ∧ xs.length ≤ 8
    · obtain ⟨n1, n2⟩ := hn
      have HP := Lib.hid hp
      clear hp
      go_enter Try.func16, Try.ntmps16
      go_wp2_with (first | (go_at_call 42; refine (s_prime p _).mono ?_; rw [HPR.out]; rintro e w1 ⟨rfl, rfl⟩) | (go_at_call 43; refine (s_in_t _ _ _ _ ?_ ?_).mono ?_; omega; omega; rintro e w1 ⟨rfl, rfl⟩) | (go_at_call 43; refine (s_in_f _ _ _ _ ?_).mono ?_; omega; rintro e w1 ⟨rfl, rfl⟩))
      go_loop [18] (fun i => ∃ k : Nat, k ≤ xs.length ∧ i = .int .i64 k ∧ Hid (∀ j, j < k → 0 ≤ xs.getD j 0 ∧ xs.getD j 0 ≤ p - 1)) (fun i => xs.length - (intOf i).toNat)
      case atStart => exact ⟨0, Nat.zero_le _, rfl, fun j hj => by omega⟩
      case round =>
        obtain ⟨k, hk, rfl, hall⟩ := hrel
        by_cases hlt : k < xs.length
        · obtain ⟨b0, off, hA, hb0, hc⟩ := hR.at_ hlt
          subst hA
          have HR := Lib.hid hR
          clear hR
          obtain ⟨d, hd⟩ : ∃ d, d = xs.getD k 0 := ⟨_, rfl⟩
          rw [← hd] at hc
          have HX := Lib.hid hd
          clear hd
          by_cases h1 : 0 ≤ d ∧ d ≤ p - 1
          · obtain ⟨d1, d2⟩ := h1
            go_wp2_with (first | (go_at_call 43; refine (s_in_t _ _ _ _ ?_ ?_).mono ?_; omega; omega; rintro e w1 ⟨rfl, rfl⟩) | (go_at_call 43; refine (s_in_f _ _ _ _ ?_).mono ?_; omega; rintro e w1 ⟨rfl, rfl⟩))
            go_round
            case rel => exact ⟨k + 1, by omega, by go_num, fun j hj => by
              by_cases e : j = k
              · subst e; rw [← HX.out]; exact ⟨d1, d2⟩
              · exact hall.out j (by omega)⟩
            case measure => simp [intOf]; omega
          · have h1' : d < 0 ∨ p - 1 < d := by omega
            have H := Lib.hid (padB_f (b := p) (xs := xs) fun hh => by
              have := allB_iff.1 hh.2.2.2 _ (getD_mem hlt)
              rw [← HX.out] at this
              exact h1 this)
            clear h1
            go_wp2_with (first | (go_at_call 43; refine (s_in_t _ _ _ _ ?_ ?_).mono ?_; omega; omega; rintro e w1 ⟨rfl, rfl⟩) | (go_at_call 43; refine (s_in_f _ _ _ _ ?_).mono ?_; omega; rintro e w1 ⟨rfl, rfl⟩))
            go_ret
            exact ⟨by rw [H.out]; rfl, Below.refl _ _⟩
        · have H := Lib.hid (padB_t (b := p) (xs := xs) ⟨HP.out, n1, n2, allB_of fun j hj => hall.out j (by omega)⟩)
          go_wp2
          go_ret
          exact ⟨by rw [H.out]; rfl, Below.refl _ _⟩
    · have hn' : ((xs.length : Int) < 1) ∨ (8 : Int) < xs.length := by omega
      have H := Lib.hid (padB_f (b := p) (xs := xs) fun hh => hn ⟨hh.2.1, hh.2.2.1⟩)
      clear hp hn
      go_enter Try.func16, Try.ntmps16
      go_wp2_with (first | (go_at_call 42; refine (s_prime p _).mono ?_; rw [HPR.out]; rintro e w1 ⟨rfl, rfl⟩) | (go_at_call 43; refine (s_in_t _ _ _ _ ?_ ?_).mono ?_; omega; omega; rintro e w1 ⟨rfl, rfl⟩) | (go_at_call 43; refine (s_in_f _ _ _ _ ?_).mono ?_; omega; rintro e w1 ⟨rfl, rfl⟩))
      go_ret
      exact ⟨by rw [H.out]; rfl, Below.refl _ _⟩
end Go.Proofs.Ytjdfpodmjpkfpaa
