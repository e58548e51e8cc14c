/- Contract of spec.l03Trim: zeros at the end go. Conditions: lengths of at most 2^32. -/
import Derived.Test.YthblbmihpgkanaaDoorRow
namespace Go.Proofs.YthblbmihpgkanaaDoor
open Go.RowKit
set_option linter.unusedVariables false

/-- How many of the first q numbers stay when zeros at the end go. -/
def trimN (xs : List Int) : Nat → Nat
  | 0 => 0
  | q + 1 => if xs.getD q 0 = 0 then trimN xs q else q + 1
theorem trimN_zero {xs : List Int} {q : Nat} (h : xs.getD q 0 = 0) : trimN xs (q + 1) = trimN xs q := by simp only [trimN, if_pos h]
theorem trimN_stop {xs : List Int} {q : Nat} (h : ¬ xs.getD q 0 = 0) : trimN xs (q + 1) = q + 1 := by simp only [trimN, if_neg h]
theorem trimN_le (xs : List Int) : ∀ q, trimN xs q ≤ q
  | 0 => Nat.le_refl _
  | q + 1 => by
    unfold trimN
    split
    · exact Nat.le_succ_of_le (trimN_le xs q)
    · exact Nat.le_refl _
/-- The list without zeros at the end. -/
def trimL (xs : List Int) : List Int := xs.take (trimN xs xs.length)
theorem length_trimL (xs : List Int) : (trimL xs).length = trimN xs xs.length := by
  unfold trimL; rw [List.length_take]; have := trimN_le xs xs.length; omega
theorem OI.take {w : World} {B : Nat} {A : Option Addr} {xs : List Int} (h : OI w B A xs) (q : Nat) : OI w B A (xs.take q) := by
  rcases h with rfl | ⟨g, off, cs, hA, hB, hb, hf⟩
  · exact .inl (by simp)
  · refine .inr ⟨g, off, cs, hA, hB, hb, fun j hj => ?_⟩
    rw [List.length_take] at hj
    rw [hf j (by omega), List.getD_eq_getElem?_getD, List.getD_eq_getElem?_getD, List.getElem?_take, if_pos (by omega)]

end Go.Proofs.YthblbmihpgkanaaDoor
