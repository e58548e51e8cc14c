/- Units modulo a power of a small prime; the words of PadicInverse and PadicDigits. Conditions: none. -/
import Derived.Test.YtjdfpodmjpkfpaaPadOps
import Derived.Test.YtjdfpodmjpkfpaaInvM
namespace Go.Proofs.Ytjdfpodmjpkfpaa
open Go.RowKit
set_option linter.unusedVariables false

theorem gcd_small {p : Int} (hp : primeB p = true) {n : Int} (h : n % p ≠ 0) : Int.gcd n p = 1 := by
  rw [← gcd_emod]
  obtain ⟨p1, p2⟩ := primeB_bd hp
  have h1 := Int.emod_nonneg n (show p ≠ 0 by omega)
  have h2 := Int.emod_lt_of_pos n (show 0 < p by omega)
  generalize n % p = r at *
  obtain ⟨q, rfl⟩ := Int.eq_ofNat_of_zero_le h1
  obtain ⟨P, rfl⟩ := Int.eq_ofNat_of_zero_le (show 0 ≤ p by omega)
  show Nat.gcd P q = 1
  have hq : q < P := by omega
  have hq0 : q ≠ 0 := by omega
  rw [primeB_iff] at hp
  have c2 : ∀ q, q < 2 → q ≠ 0 → Nat.gcd 2 q = 1 := by decide
  have c3 : ∀ q, q < 3 → q ≠ 0 → Nat.gcd 3 q = 1 := by decide
  have c5 : ∀ q, q < 5 → q ≠ 0 → Nat.gcd 5 q = 1 := by decide
  have c7 : ∀ q, q < 7 → q ≠ 0 → Nat.gcd 7 q = 1 := by decide
  have c11 : ∀ q, q < 11 → q ≠ 0 → Nat.gcd 11 q = 1 := by decide
  have c13 : ∀ q, q < 13 → q ≠ 0 → Nat.gcd 13 q = 1 := by decide
  have hP : P = 2 ∨ P = 3 ∨ P = 5 ∨ P = 7 ∨ P = 11 ∨ P = 13 := by omega
  rcases hP with rfl | rfl | rfl | rfl | rfl | rfl
  · exact c2 q hq hq0
  · exact c3 q hq hq0
  · exact c5 q hq hq0
  · exact c7 q hq hq0
  · exact c11 q hq hq0
  · exact c13 q hq hq0
theorem gcd_pow {p : Int} (hp : primeB p = true) {n : Int} (h : n % p ≠ 0) (k : Nat) : Int.gcd n (p ^ k) = 1 := by
  have := gcd_small hp h
  unfold Int.gcd at this ⊢
  rw [Int.natAbs_pow]
  exact Nat.Coprime.pow_right k this
theorem gcd_mod_pow {p : Int} (hp : primeB p = true) {n : Int} (h : n % p ≠ 0) (k : Nat) : Int.gcd (n % p ^ k) (p ^ k) = 1 := by
  rw [Int.gcd_comm, gcd_emod]; exact gcd_pow hp h k
theorem val_mod {p : Int} {xs : List Int} (h : PadP p xs) : val p xs % p = xs.getD 0 0 := by
  obtain ⟨p1, p2⟩ := primeB_bd h.1
  match xs, h with
  | [], h => exact absurd h.2.1 (by simp)
  | x :: xs, h =>
    have := allB_iff.1 h.2.2.2 x (by simp)
    show (val p xs * p + x) % p = x
    rw [Int.add_comm, Int.add_mul_emod_self_right]
    exact Int.emod_eq_of_lt this.1 (by omega)
theorem tmod_ne {c p : Int} : c.tmod p ≠ 0 ↔ c % p ≠ 0 := by
  exact not_congr (by rw [← Int.dvd_iff_tmod_eq_zero, ← Int.dvd_iff_emod_eq_zero])

/-- The digits that PadicInverse gives. -/
def PiP (p : Int) (xs : List Int) : Prop := PadP p xs ∧ xs.getD 0 0 ≠ 0
noncomputable def piB (p : Int) (xs : List Int) : Bool := @decide (PiP p xs) (Classical.propDecidable _)
theorem piB_t {b : Int} {xs : List Int} (h : PiP b xs) : piB b xs = true := by unfold piB; exact @decide_eq_true _ (Classical.propDecidable _) h
theorem piB_f {b : Int} {xs : List Int} (h : ¬ PiP b xs) : piB b xs = false := by unfold piB; exact @decide_eq_false _ (Classical.propDecidable _) h
theorem piB_iff {b : Int} {xs : List Int} : piB b xs = true ↔ PiP b xs := by
  constructor
  · intro h; exact Classical.byContradiction fun hn => by rw [piB_f hn] at h; cases h
  · exact piB_t
noncomputable def invR (p : Int) (xs : List Int) : List Int := if piB p xs then plc p xs.length (inv (val p xs) (p ^ xs.length)) else []
theorem length_invR (p : Int) (xs : List Int) (hl : xs.length ≤ 4294967296) : (invR p xs).length ≤ 4294967296 := by
  unfold invR; split
  · rw [length_plc]; exact hl
  · simp
theorem PiP.inv_bd {p : Int} {xs : List Int} (h : PiP p xs) : 0 ≤ inv (val p xs) (p ^ xs.length) ∧ inv (val p xs) (p ^ xs.length) < p ^ xs.length := by
  obtain ⟨p1, p2⟩ := primeB_bd h.1.1
  have := inv_ok (a := val p xs) (m := p ^ xs.length) (pow_bd p1 p2 h.1.2.2.1).1 (gcd_pow h.1.1 (by rw [val_mod h.1]; exact h.2) _)
  exact ⟨this.1, this.2.1⟩

/-- Arguments of PadicDigits. -/
def PdP (p k a c : Int) : Prop := primeB p = true ∧ 1 ≤ k ∧ k ≤ 8 ∧ -1000000 ≤ a ∧ a ≤ 1000000 ∧ -1000000 ≤ c ∧ c ≤ 1000000 ∧ c.tmod p ≠ 0
noncomputable def pdB (p k a c : Int) : Bool := @decide (PdP p k a c) (Classical.propDecidable _)
theorem pdB_t {p k a c : Int} (h : PdP p k a c) : pdB p k a c = true := by unfold pdB; exact @decide_eq_true _ (Classical.propDecidable _) h
theorem pdB_f {p k a c : Int} (h : ¬ PdP p k a c) : pdB p k a c = false := by unfold pdB; exact @decide_eq_false _ (Classical.propDecidable _) h
/-- The digits that PadicDigits gives. -/
noncomputable def pdR (p k a c : Int) : List Int := if pdB p k a c then plc p k.toNat (a % p ^ k.toNat * inv (c % p ^ k.toNat) (p ^ k.toNat) % p ^ k.toNat) else []
theorem length_pdR (p k a c : Int) : (pdR p k a c).length ≤ 4294967296 := by
  unfold pdR; split
  · rename_i h
    rw [length_plc]
    by_cases hh : PdP p k a c
    · have := hh.2.2.1; omega
    · rw [pdB_f hh] at h; cases h
  · simp
theorem PdP.inv_bd {p k a c : Int} (h : PdP p k a c) : 0 ≤ inv (c % p ^ k.toNat) (p ^ k.toNat) ∧ inv (c % p ^ k.toNat) (p ^ k.toNat) < p ^ k.toNat := by
  obtain ⟨p1, p2⟩ := primeB_bd h.1
  have := inv_ok (a := c % p ^ k.toNat) (m := p ^ k.toNat) (pow_bd p1 p2 (by have := h.2.2.1; omega)).1 (gcd_mod_pow h.1 (tmod_ne.1 h.2.2.2.2.2.2.2) _)
  exact ⟨this.1, this.2.1⟩
end Go.Proofs.Ytjdfpodmjpkfpaa
