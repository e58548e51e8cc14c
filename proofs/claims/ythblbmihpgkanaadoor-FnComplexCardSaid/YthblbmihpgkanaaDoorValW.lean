/- The number with some digits, and its bounds. Conditions: none. -/
import Derived.Test.YthblbmihpgkanaaDoorInts
namespace Go.Proofs.YthblbmihpgkanaaDoor
open Go.RowKit
set_option linter.unusedVariables false

/-- The value of digits, the lowest first. -/
def val (b : Int) (xs : List Int) : Int := xs.foldr (fun d n => n * b + d) 0
theorem val_drop {b : Int} {xs : List Int} {q : Nat} (h : q < xs.length) : val b (xs.drop q) = val b (xs.drop (q + 1)) * b + xs.getD q 0 := by
  rw [List.drop_eq_getElem_cons h, List.getD_eq_getElem?_getD, List.getElem?_eq_getElem h, Option.getD_some]; rfl
theorem mul_bd16 {v b : Int} {m : Nat} (hv : v.natAbs ≤ m) (hb : b.natAbs ≤ 16) : (v * b).natAbs ≤ m * 16 := by
  rw [Int.natAbs_mul]; exact Nat.mul_le_mul hv hb
theorem val_bd {b : Int} (hb : b.natAbs ≤ 16) : ∀ (xs : List Int), (∀ x ∈ xs, x.natAbs ≤ 15) → (val b xs).natAbs ≤ 16 ^ xs.length - 1
  | [], _ => by simp [val]
  | x :: xs, h => by
    have ih := val_bd hb xs fun y hy => h y (by simp [hy])
    have h1 := mul_bd16 ih hb
    have h2 := h x (by simp)
    have h3 : (val b (x :: xs)) = val b xs * b + x := rfl
    have h4 : 0 < 16 ^ xs.length := Nat.pow_pos (by omega)
    rw [h3, List.length_cons, Nat.pow_succ]
    omega
theorem val_bd12 {b : Int} (hb : b.natAbs ≤ 16) {xs : List Int} (hl : xs.length ≤ 12) (h : ∀ x ∈ xs, x.natAbs ≤ 15) : (val b xs).natAbs ≤ 281474976710655 := by
  have h1 := val_bd hb xs h
  have h2 : 16 ^ xs.length ≤ 16 ^ 12 := Nat.pow_le_pow_right (by omega) hl
  have h3 : 16 ^ 12 = 281474976710656 := by decide
  omega
theorem getD_mem {xs : List Int} {q : Nat} (h : q < xs.length) : xs.getD q 0 ∈ xs := by
  rw [List.getD_eq_getElem?_getD, List.getElem?_eq_getElem h, Option.getD_some]; exact List.getElem_mem h
end Go.Proofs.YthblbmihpgkanaaDoor
