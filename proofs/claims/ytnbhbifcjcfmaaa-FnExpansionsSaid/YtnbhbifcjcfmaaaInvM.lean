/- Euclid's algorithm in plain numbers: the greatest common divisor, the inverse modulo m. Conditions: none. -/
import Derived.Test.YtnbhbifcjcfmaaaBase
namespace Go.Proofs.Ytnbhbifcjcfmaaa
set_option linter.unusedVariables false

/-- The rounds of the search for an inverse: the last remainder and its factor. -/
def eg : Nat → Int → Int → Int → Int → Int × Int
  | 0, r, _, x, _ => (r, x)
  | f + 1, r, s, x, y => if s = 0 then (r, x) else eg f s (r - r / s * s) y (x - r / s * y)

structure EI (m a r s x y : Int) : Prop where
  r1 : 1 ≤ r
  s0 : 0 ≤ s
  sr : s < r ∨ r = m
  rm : r ≤ m
  sm : s ≤ m
  bal : ∃ X Y : Int, 0 ≤ X ∧ 0 ≤ Y ∧ (x = X ∧ y = -Y ∨ x = -X ∧ y = Y) ∧ Y * r + X * s = m
  x1 : -m ≤ x
  x2 : x ≤ m
  y1 : -m ≤ y
  y2 : y ≤ m
  dx : ∃ c, x * a = r + m * c
  dy : ∃ c, y * a = s + m * c

theorem EI.start {m a : Int} (hm : 1 ≤ m) : EI m a m (a % m) 0 1 := by
  have h1 := Int.emod_nonneg a (show m ≠ 0 by omega)
  have h2 := Int.emod_lt_of_pos a (show 0 < m by omega)
  refine ⟨hm, h1, .inr rfl, Int.le_refl _, by omega, ⟨0, 1, by omega, by omega, .inr ⟨by omega, rfl⟩, by simp⟩, by omega, by omega, by omega, by omega, ⟨-1, by omega⟩, ⟨a / m, ?_⟩⟩
  rw [Int.one_mul]
  exact (Int.emod_add_mul_ediv a m).symm

theorem EI.step {m a r s x y : Int} (h : EI m a r s x y) (hs : 0 < s) :
    EI m a s (r - r / s * s) y (x - r / s * y) ∧ r - r / s * s < s ∧ 0 ≤ r / s ∧ r / s ≤ r ∧ 0 ≤ r / s * s ∧ r / s * s ≤ r ∧ -m ≤ r / s * y ∧ r / s * y ≤ m := by
  obtain ⟨r1, s0, sr, rm, sm, ⟨X, Y, X0, Y0, hXY, hb⟩, x1, x2, y1, y2, ⟨c, hc⟩, ⟨d, hd⟩⟩ := h
  have e1 : r - r / s * s = r % s := by rw [Int.emod_def, Int.mul_comm s]
  have h1 := Int.emod_nonneg r (show s ≠ 0 by omega)
  have h2 := Int.emod_lt_of_pos r hs
  have q0 : 0 ≤ r / s := Int.ediv_nonneg (by omega) (by omega)
  have q1 : r / s ≤ r := Int.ediv_le_self _ (by omega)
  have q2 : 0 ≤ r / s * s := Int.mul_nonneg q0 s0
  have q3 : r / s * s ≤ r := by omega
  rw [← e1] at h1 h2
  clear e1
  generalize r / s = q at *
  have bal2 : (X + q * Y) * s + Y * (r - q * s) = m := by rw [← hb]; grind
  have n1 : 0 ≤ q * Y := Int.mul_nonneg q0 Y0
  have n2 : 0 ≤ Y * (r - q * s) := Int.mul_nonneg Y0 h1
  have n3 : (X + q * Y) * 1 ≤ (X + q * Y) * s := Int.mul_le_mul_of_nonneg_left (by omega) (by omega)
  rw [Int.mul_one] at n3
  have sx : y = Y ∧ x - q * y = -(X + q * Y) ∧ q * y = q * Y ∨ y = -Y ∧ x - q * y = X + q * Y ∧ q * y = -(q * Y) := by
    rcases hXY with ⟨rfl, rfl⟩ | ⟨rfl, rfl⟩
    · exact .inr ⟨rfl, by grind, by grind⟩
    · exact .inl ⟨rfl, by grind, by grind⟩
  have hc2 : (x - q * y) * a = r - q * s + m * (c - q * d) := by grind
  generalize hN : x - q * y = N at *
  generalize hQ : q * y = U at *
  refine ⟨⟨by omega, h1, .inl h2, sm, by omega, ⟨Y, X + q * Y, Y0, by omega, ?_, bal2⟩, y1, y2, ?_, ?_, ⟨d, hd⟩, ⟨c - q * d, hc2⟩⟩, h2, q0, q1, q2, q3, ?_, ?_⟩
  · rcases sx with ⟨a1, a2, a3⟩ | ⟨a1, a2, a3⟩
    · exact .inl ⟨a1, a2⟩
    · exact .inr ⟨a1, a2⟩
  all_goals
    rcases sx with ⟨a1, a2, a3⟩ | ⟨a1, a2, a3⟩ <;> omega

theorem eg_zero {f : Nat} {r x y : Int} : eg f r 0 x y = (r, x) := by cases f <;> simp [eg]
theorem eg_succ {f : Nat} {r s x y : Int} (h : 0 < s) : eg (f + 1) r s x y = eg f s (r - r / s * s) y (x - r / s * y) := by
  rw [eg, if_neg (by omega)]

theorem gcd_sub (r s : Int) (q : Int) : Int.gcd s (r - q * s) = Int.gcd r s := by
  rw [Int.gcd_comm s, Int.sub_eq_add_neg, ← Int.neg_mul, Int.gcd_add_mul_right_left]

theorem eg_end (m a : Int) : ∀ (f : Nat) (r s x y : Int), EI m a r s x y → s < f →
    (eg f r s x y).1 = Int.gcd r s ∧ (∃ c, (eg f r s x y).2 * a = (eg f r s x y).1 + m * c) ∧ -m ≤ (eg f r s x y).2 ∧ (eg f r s x y).2 ≤ m
  | 0, r, s, x, y, h, hf => absurd hf (by have := h.s0; omega)
  | f + 1, r, s, x, y, h, hf => by
    by_cases h0 : s = 0
    · subst h0
      rw [eg_zero]
      exact ⟨by have := h.r1; simp; omega, h.dx, h.x1, h.x2⟩
    · have hs : 0 < s := by have := h.s0; omega
      rw [eg_succ hs]
      obtain ⟨h1, h2, -⟩ := h.step hs
      have ih := eg_end m a f _ _ _ _ h1 (by omega)
      rw [gcd_sub] at ih
      exact ih

/-- The end of the search: its last remainder and factor. -/
def egEnd (a m : Int) : Int × Int := eg (m.toNat + 1) m (a % m) 0 1
theorem gcd_emod (a m : Int) : Int.gcd m (a % m) = Int.gcd a m := by
  rw [Int.emod_def, Int.mul_comm, gcd_sub]
theorem egEnd_spec (a : Int) {m : Int} (hm : 1 ≤ m) : (egEnd a m).1 = Int.gcd a m ∧ (∃ c, (egEnd a m).2 * a = (egEnd a m).1 + m * c) ∧ -m ≤ (egEnd a m).2 ∧ (egEnd a m).2 ≤ m := by
  have h2 := Int.emod_lt_of_pos a (show 0 < m by omega)
  have := eg_end m a (m.toNat + 1) _ _ _ _ (EI.start hm) (by omega)
  rw [gcd_emod] at this
  exact this

/-- The inverse of a modulo m, or -1. -/
def inv (a m : Int) : Int := if (egEnd a m).1 = 1 then (egEnd a m).2 % m else -1
theorem inv_ok {a m : Int} (hm : 1 ≤ m) (h : Int.gcd a m = 1) : 0 ≤ inv a m ∧ inv a m < m ∧ (a * inv a m) % m = 1 % m := by
  obtain ⟨h1, ⟨c, hc⟩, h2, h3⟩ := egEnd_spec a hm
  have e : inv a m = (egEnd a m).2 % m := by unfold inv; rw [if_pos (by rw [h1, h]; rfl)]
  rw [e]
  refine ⟨Int.emod_nonneg _ (by omega), Int.emod_lt_of_pos _ (by omega), ?_⟩
  rw [Int.mul_emod, Int.emod_emod_of_dvd _ (Int.dvd_refl m), ← Int.mul_emod, Int.mul_comm, hc, h1, h]
  simp

/-! The greatest common divisor. -/
theorem gcd_tmod (a b : Int) : Int.gcd b (a.tmod b) = Int.gcd a b := by
  rw [Int.tmod_def, Int.mul_comm, gcd_sub]
theorem tmod_lt (a : Int) {b : Int} (hb : b ≠ 0) : (a.tmod b).natAbs < b.natAbs := by
  rw [Int.natAbs_tmod]; exact Nat.mod_lt _ (by omega)
end Go.Proofs.Ytnbhbifcjcfmaaa
