/- Plain words of the p-adic operations: bounds, digits of a remainder. Conditions: none. -/
import Derived.Test.YtjdfpodmjpkfpaaPadV
import Derived.Test.YtjdfpodmjpkfpaaPlaced
import Derived.Test.YtjdfpodmjpkfpaaMod
import Derived.Test.YtjdfpodmjpkfpaaRetLB
namespace Go.Proofs.Ytjdfpodmjpkfpaa
open Go.RowKit
set_option linter.unusedVariables false

theorem pow_bd {p : Int} (h1 : 2 ≤ p) (h2 : p ≤ 13) {j : Nat} (hj : j ≤ 8) : 1 ≤ p ^ j ∧ p ^ j ≤ 815730721 := by
  obtain ⟨q, rfl⟩ := Int.eq_ofNat_of_zero_le (show 0 ≤ p by omega)
  have a : q ^ j ≤ 13 ^ 8 := Nat.le_trans (Nat.pow_le_pow_left (by omega) j) (Nat.pow_le_pow_right (by omega) hj)
  have b : 0 < q ^ j := Nat.pow_pos (by omega)
  have c : (13 : Nat) ^ 8 = 815730721 := by decide
  rw [← Int.natCast_pow]
  omega
theorem val_pow {p : Int} (h1 : 2 ≤ p) : ∀ (xs : List Int), (∀ x ∈ xs, 0 ≤ x ∧ x ≤ p - 1) → 0 ≤ val p xs ∧ val p xs ≤ p ^ xs.length - 1
  | [], _ => by simp [val]
  | x :: xs, h => by
    obtain ⟨i1, i2⟩ := val_pow h1 xs fun y hy => h y (by simp [hy])
    obtain ⟨x1, x2⟩ := h x (by simp)
    have e : val p (x :: xs) = val p xs * p + x := rfl
    have m1 : 0 ≤ val p xs * p := Int.mul_nonneg i1 (by omega)
    have m2 : val p xs * p ≤ (p ^ xs.length - 1) * p := Int.mul_le_mul_of_nonneg_right i2 (by omega)
    rw [Int.sub_mul, Int.one_mul, ← Int.pow_succ] at m2
    rw [e, List.length_cons]
    generalize p ^ (xs.length + 1) = Z at *
    generalize val p xs * p = Y at *
    omega
/-- Two numbers with equally many digits. -/
def TwoP (p : Int) (xs ys : List Int) : Prop := PadP p xs ∧ PadP p ys ∧ xs.length = ys.length
noncomputable def twoB (p : Int) (xs ys : List Int) : Bool := @decide (TwoP p xs ys) (Classical.propDecidable _)
theorem twoB_t {p : Int} {xs ys : List Int} (h : TwoP p xs ys) : twoB p xs ys = true := by unfold twoB; exact @decide_eq_true _ (Classical.propDecidable _) h
theorem twoB_f {p : Int} {xs ys : List Int} (h : ¬ TwoP p xs ys) : twoB p xs ys = false := by unfold twoB; exact @decide_eq_false _ (Classical.propDecidable _) h
theorem PadP.val_bd {p : Int} {xs : List Int} (h : PadP p xs) : 0 ≤ val p xs ∧ val p xs ≤ 815730720 := by
  obtain ⟨p1, p2⟩ := primeB_bd h.1
  obtain ⟨v1, v2⟩ := val_pow p1 xs (allB_iff.1 h.2.2.2)
  have := (pow_bd p1 p2 h.2.2.1).2
  omega
theorem emod_mul_step (n p q : Int) (hp : 0 < p) (hq : 0 < q) : n % (p * q) % p = n % p ∧ n % (p * q) / p = n / p % q := by
  refine ⟨Int.emod_emod_of_dvd n (Int.dvd_mul_right p q), ?_⟩
  have e1 := Int.emod_add_mul_ediv n (p * q)
  have e2 := Int.emod_add_mul_ediv n p
  have e3 := Int.emod_add_mul_ediv (n / p) q
  have e4 : n / (p * q) = n / p / q := by rw [Int.ediv_ediv_of_nonneg (by omega)]
  have e5 : n % (p * q) = n % p + p * (n / p % q) := by
    have : p * q * (n / (p * q)) = p * (q * (n / p / q)) := by rw [e4, Int.mul_assoc]
    have h2 : p * (n / p) = p * (n / p % q) + p * (q * (n / p / q)) := by rw [← Int.mul_add, e3]
    omega
  rw [e5, Int.add_mul_ediv_left _ _ (by omega), Int.ediv_eq_zero_of_lt (Int.emod_nonneg _ (by omega)) (Int.emod_lt_of_pos _ hp), Int.zero_add]
/-- The first k digits of n are those of its remainder modulo p^k. -/
theorem plc_mod {p : Int} (hp : 2 ≤ p) : ∀ (k : Nat) (n : Int), plc p k (n % p ^ k) = plc p k n
  | 0, _ => rfl
  | k + 1, n => by
    have hq : 0 < p ^ k := Int.pow_pos (by omega)
    obtain ⟨a, b⟩ := emod_mul_step n p (p ^ k) (by omega) hq
    rw [Int.pow_succ, Int.mul_comm (p ^ k) p]
    show (n % (p * p ^ k)) % p :: plc p k (n % (p * p ^ k) / p) = n % p :: plc p k (n / p)
    rw [a, b, plc_mod hp k]

/-- The digits that PadicAdd gives. -/
noncomputable def addR (p : Int) (xs ys : List Int) : List Int := if twoB p xs ys then plc p xs.length ((val p xs + val p ys) % p ^ xs.length) else []
theorem length_addR (p : Int) (xs ys : List Int) (hl : xs.length ≤ 4294967296) : (addR p xs ys).length ≤ 4294967296 := by
  unfold addR; split
  · rw [length_plc]; exact hl
  · simp

/-- The digits that PadicTimes gives. -/
noncomputable def timesR (p : Int) (xs ys : List Int) : List Int := if twoB p xs ys then plc p xs.length ((val p xs * val p ys) % p ^ xs.length) else []
theorem length_timesR (p : Int) (xs ys : List Int) (hl : xs.length ≤ 4294967296) : (timesR p xs ys).length ≤ 4294967296 := by
  unfold timesR; split
  · rw [length_plc]; exact hl
  · simp
end Go.Proofs.Ytjdfpodmjpkfpaa
