/- Plain words of PadicRoot and RationalOf: the searches. Conditions: none. -/
import Derived.Test.YtjdfpodmjpkfpaaPadUnit
namespace Go.Proofs.Ytjdfpodmjpkfpaa
open Go.RowKit
set_option linter.unusedVariables false

/-- The first number from d on that passes the test, of at most f. -/
def fdR (t : Int → Bool) : Nat → Int → Int
  | 0, d => d
  | f + 1, d => if t d then d else fdR t f (d + 1)
theorem fdR_t {t : Int → Bool} {f : Nat} {d : Int} (h : t d = true) : fdR t (f + 1) d = d := by simp [fdR, h]
theorem fdR_f {t : Int → Bool} {f : Nat} {d : Int} (h : t d = false) : fdR t (f + 1) d = fdR t f (d + 1) := by simp [fdR, h]
def rootT (p n x m d : Int) : Bool := decide (((x + d * m) * (x + d * m) - n) % (m * p) = 0)
/-- A root modulo p^k, digit by digit. -/
def rootsR (p n : Int) : Nat → Int → Int → Option Int
  | 0, x, _ => some x
  | k + 1, x, m => if fdR (rootT p n x m) p.toNat 0 = p then none else rootsR p n k (x + fdR (rootT p n x m) p.toNat 0 * m) (m * p)
theorem rootsR_none {p n : Int} {k : Nat} {x m : Int} (h : fdR (rootT p n x m) p.toNat 0 = p) : rootsR p n (k + 1) x m = none := by rw [rootsR, if_pos h]
theorem rootsR_some {p n : Int} {k : Nat} {x m d : Int} (h : fdR (rootT p n x m) p.toNat 0 = d) (hd : d < p) : rootsR p n (k + 1) x m = rootsR p n k (x + d * m) (m * p) := by
  rw [rootsR, if_neg (by omega), h]
/-- Arguments of PadicRoot. -/
def PrP (p : Int) (xs : List Int) : Prop := PadP p xs ∧ p ≠ 2 ∧ xs.getD 0 0 ≠ 0
noncomputable def rootO (p : Int) (xs : List Int) : Option Int := @ite _ (PrP p xs) (Classical.propDecidable _) (rootsR p (val p xs) xs.length 0 1) none
noncomputable def rootR (p : Int) (xs : List Int) : List Int := match rootO p xs with | some x => plc p xs.length x | none => []
noncomputable def rootB (p : Int) (xs : List Int) : Bool := (rootO p xs).isSome
theorem rootO_t {p : Int} {xs : List Int} (h : PrP p xs) : rootO p xs = rootsR p (val p xs) xs.length 0 1 := by unfold rootO; rw [if_pos h]
theorem rootO_f {p : Int} {xs : List Int} (h : ¬ PrP p xs) : rootO p xs = none := by unfold rootO; rw [if_neg h]
theorem root_none {p : Int} {xs : List Int} (h : rootO p xs = none) : rootR p xs = [] ∧ rootB p xs = false := by unfold rootR rootB; rw [h]; exact ⟨rfl, rfl⟩
theorem root_some {p : Int} {xs : List Int} {x : Int} (h : rootO p xs = some x) : rootR p xs = plc p xs.length x ∧ rootB p xs = true := by unfold rootR rootB; rw [h]; exact ⟨rfl, rfl⟩
theorem length_rootR (p : Int) (xs : List Int) (hl : xs.length ≤ 4294967296) : (rootR p xs).length ≤ 4294967296 := by
  unfold rootR; split
  · rw [length_plc]; exact hl
  · simp
/-- Bounds of one round: the square of what is tried. -/
theorem root_bd {p x m d : Int} (hm : 1 ≤ m) (hx0 : 0 ≤ x) (hx : x < m) (hd0 : 0 ≤ d) (hd : d < p) (hq : m * p ≤ 815730721) :
    0 ≤ d * m ∧ d * m ≤ 815730721 ∧ 0 ≤ x + d * m ∧ x + d * m < m * p ∧ 0 ≤ (x + d * m) * (x + d * m) ∧ (x + d * m) * (x + d * m) ≤ 665416609183179841 := by
  have h0 : 0 ≤ d * m := Int.mul_nonneg hd0 (by omega)
  have h1 : d * m ≤ (p - 1) * m := Int.mul_le_mul_of_nonneg_right (by omega) (by omega)
  have h2 : (p - 1) * m = m * p - m := by grind
  have h3 : x + d * m < m * p := by omega
  have h4 : (x + d * m) * (x + d * m) ≤ 815730721 * 815730721 := Int.mul_le_mul (by omega) (by omega) (by omega) (by omega)
  exact ⟨h0, by omega, by omega, h3, Int.mul_nonneg (by omega) (by omega), by omega⟩

/-! The search of RationalOf. -/
def inn (t : Int → Bool) : Nat → Int → Option Int
  | 0, _ => none
  | f + 1, a => if t a then some a else inn t f (a + 1)
theorem inn_t {t : Int → Bool} {f : Nat} {d : Int} (h : t d = true) : inn t (f + 1) d = some d := by simp [inn, h]
theorem inn_f {t : Int → Bool} {f : Nat} {d : Int} (h : t d = false) : inn t (f + 1) d = inn t f (d + 1) := by simp [inn, h]
def outr (t : Int → Int → Bool) (cnt : Nat) (lo : Int) : Nat → Int → Option (Int × Int)
  | 0, _ => none
  | f + 1, c => match inn (t c) cnt lo with | some a => some (a, c) | none => outr t cnt lo f (c + 1)
theorem outr_some {t : Int → Int → Bool} {cnt f : Nat} {lo c a : Int} (h : inn (t c) cnt lo = some a) : outr t cnt lo (f + 1) c = some (a, c) := by simp [outr, h]
theorem outr_none {t : Int → Int → Bool} {cnt f : Nat} {lo c : Int} (h : inn (t c) cnt lo = none) : outr t cnt lo (f + 1) c = outr t cnt lo f (c + 1) := by simp [outr, h]
def ratT (p n m c a : Int) : Bool := decide (c % p ≠ 0 ∧ (Int.gcd a c : Int) = 1 ∧ (c * n - a) % m = 0)
theorem ratT_f {p n m c a : Int} (h : ¬ (c % p ≠ 0 ∧ (Int.gcd a c : Int) = 1 ∧ (c * n - a) % m = 0)) : ratT p n m c a = false := decide_eq_false h
theorem ratT_t {p n m c a : Int} (h : c % p ≠ 0 ∧ (Int.gcd a c : Int) = 1 ∧ (c * n - a) % m = 0) : ratT p n m c a = true := decide_eq_true h
def PqP (p : Int) (xs : List Int) (B : Int) : Prop := PadP p xs ∧ 1 ≤ B ∧ B ≤ 40
noncomputable def ratO (p : Int) (xs : List Int) (B : Int) : Option (Int × Int) := @ite _ (PqP p xs B) (Classical.propDecidable _) (outr (ratT p (val p xs) (p ^ xs.length)) (2 * B + 1).toNat (-B) B.toNat 1) none
theorem ratO_t {p : Int} {xs : List Int} {B : Int} (h : PqP p xs B) : ratO p xs B = outr (ratT p (val p xs) (p ^ xs.length)) (2 * B + 1).toNat (-B) B.toNat 1 := by unfold ratO; rw [if_pos h]
theorem ratO_f {p : Int} {xs : List Int} {B : Int} (h : ¬ PqP p xs B) : ratO p xs B = none := by unfold ratO; rw [if_neg h]
def rA (o : Option (Int × Int)) : Int := (o.getD (0, 0)).1
def rC (o : Option (Int × Int)) : Int := (o.getD (0, 0)).2
def rF (o : Option (Int × Int)) : Bool := o.isSome
end Go.Proofs.Ytjdfpodmjpkfpaa
