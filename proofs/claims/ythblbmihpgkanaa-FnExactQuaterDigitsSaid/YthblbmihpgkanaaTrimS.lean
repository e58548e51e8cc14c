/- Contract of spec.l03Trim: zeros at the end go. Conditions: lengths of at most 2^32. -/
import Derived.Test.YthblbmihpgkanaaRow
namespace Go.Proofs.Ythblbmihpgkanaa
open Go.RowKit
set_option linter.unusedVariables false

/-- How many of the first q numbers stay when zeros at the end go. -/
def trimN (xs : List Int) : Nat → Nat
  | 0 => 0
  | q + 1 => if xs.getD q 0 = 0 then trimN xs q else q + 1
theorem trimN_zero {xs : List Int} {q : Nat} (h : xs.getD q 0 = 0) : trimN xs (q + 1) = trimN xs q := by simp only [trimN, if_pos h]
theorem trimN_stop {xs : List Int} {q : Nat} (h : ¬ xs.getD q 0 = 0) : trimN xs (q + 1) = q + 1 := by simp only [trimN, if_neg h]
theorem trimN_le (xs : List Int) : ∀ q, trimN xs q ≤ q
  | 0 => Nat.le_refl _
  | q + 1 => by
    unfold trimN
    split
    · exact Nat.le_succ_of_le (trimN_le xs q)
    · exact Nat.le_refl _
/-- The list without zeros at the end. -/
def trimL (xs : List Int) : List Int := xs.take (trimN xs xs.length)
theorem length_trimL (xs : List Int) : (trimL xs).length = trimN xs xs.length := by
  unfold trimL; rw [List.length_take]; have := trimN_le xs xs.length; omega
theorem OI.take {w : World} {B : Nat} {A : Option Addr} {xs : List Int} (h : OI w B A xs) (q : Nat) : OI w B A (xs.take q) := by
  rcases h with rfl | ⟨g, off, cs, hA, hB, hb, hf⟩
  · exact .inl (by simp)
  · refine .inr ⟨g, off, cs, hA, hB, hb, fun j hj => ?_⟩
    rw [List.length_take] at hj
    rw [hf j (by omega), List.getD_eq_getElem?_getD, List.getD_eq_getElem?_getD, List.getElem?_take, if_pos (by omega)]

set_option maxHeartbeats 1000000 in
theorem s_trim (A : Option Addr) (xs : List Int) (c : Nat) (w : World) (hR : RI w w.heap.size A xs) (hl : xs.length ≤ 4294967296) (hc : xs.length ≤ c) (hc2 : c ≤ maxLen) :
    Calls Try.prog 50 #[.slice A xs.length c] w fun e w' => e = .returned (.slice A (trimL xs).length c) ∧ w = w' := by
  rw [length_trimL]
  go_enter Try.func50, Try.ntmps50
  go_wp2
  go_loop [3] (fun s => ∃ q : Nat, q ≤ xs.length ∧ s = .int .i64 q ∧ Hid (trimN xs xs.length = trimN xs q)) (fun s => (intOf s).toNat)
  case atStart => exact ⟨xs.length, Nat.le_refl _, rfl, rfl⟩
  case round =>
    obtain ⟨q, hq, rfl, hT⟩ := hrel
    rcases Nat.eq_zero_or_pos q with rfl | hp
    · go_wp2
      go_ret
      exact ⟨by rw [hT.out]; rfl, rfl⟩
    · obtain ⟨q, rfl⟩ : ∃ p, q = p + 1 := ⟨q - 1, by omega⟩
      obtain ⟨b0, off, hA, hb0, hcell⟩ := hR.at_ (k := q) (by omega)
      subst hA
      obtain ⟨d, hd⟩ : ∃ d, d = xs.getD q 0 := ⟨_, rfl⟩
      rw [← hd] at hcell
      have HX := Lib.hid hd
      clear hd
      by_cases h0 : d = 0
      · have hz : (d == 0) = true := by simp [h0]
        have HT := Lib.hid (show trimN xs (q + 1) = trimN xs q from trimN_zero (HX.out ▸ h0))
        clear h0
        go_wp2
        go_round
        case rel => exact ⟨q, by omega, by go_num, by unfold Hid; rw [hT.out, HT.out]⟩
        case measure => simp [intOf]
      · have hz : (d == 0) = false := by simp [h0]
        have HT := Lib.hid (show trimN xs (q + 1) = q + 1 from trimN_stop (HX.out ▸ h0))
        clear h0
        go_wp2
        go_ret
        exact ⟨by rw [hT.out, HT.out]; rfl, rfl⟩
end Go.Proofs.Ythblbmihpgkanaa
