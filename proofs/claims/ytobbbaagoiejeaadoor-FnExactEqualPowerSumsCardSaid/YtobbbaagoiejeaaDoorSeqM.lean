/- The numbers of the sequences: ones, pairs of ones, folds, blocks, ruler; the two ways in which blocks are found. Plain arithmetic. Conditions: none. -/
import Derived.Test.YtobbbaagoiejeaaDoorOnesM
import Derived.Lib.TrailingZeros
namespace Go.Proofs.YtobbbaagoiejeaaDoor
set_option linter.unusedVariables false

/-- The place of the lowest one. -/
def idx (n : Nat) : Nat := if h : n = 0 then 0 else if n % 2 = 0 then idx (n / 2) + 1 else 0
termination_by n
decreasing_by omega
theorem idx_even {n : Nat} (h : 0 < n) (h2 : n % 2 = 0) : idx n = idx (n / 2) + 1 := by
  rw [idx, dif_neg (by omega), if_pos h2]
theorem idx_odd {n : Nat} (h2 : n % 2 = 1) : idx n = 0 := by
  rw [idx, dif_neg (by omega), if_neg (by omega)]
theorem ctz_idx : ∀ (f n : Nat), 0 < n → n < 2 ^ f → Go.Lib.ctzFrom f n = idx n
  | 0, n, h0, h => by simp at h; omega
  | f + 1, n, h0, h => by
    unfold Go.Lib.ctzFrom
    by_cases h1 : n % 2 = 1
    · rw [if_pos h1, idx_odd h1]
    · rw [if_neg h1, idx_even h0 (by omega), ctz_idx f (n / 2) (by omega) (by rw [Nat.pow_succ] at h; omega)]
      omega
theorem ctz64_idx {n : Nat} (h0 : 0 < n) (h : n < 2 ^ 64) : Go.Lib.ctz 64 n = idx n := by
  unfold Go.Lib.ctz
  rw [if_neg (by omega), ctz_idx 64 n h0 h]
theorem idx_split : ∀ (f n : Nat), 0 < n → n < 2 ^ f → ∃ m, n = 2 ^ idx n * (2 * m + 1) ∧ idx n < f := by
  intro f n h0 h
  rw [← ctz_idx f n h0 h]
  exact Go.Lib.ctzFrom_spec f n h0 h

/-- 1 if no run of zeros below a one has an odd length. -/
def blk (n run : Nat) : Nat := if h : n = 0 then 1 else if n % 2 = 0 then blk (n / 2) (run + 1) else if run % 2 = 1 then 0 else blk (n / 2) 0
termination_by n
decreasing_by all_goals omega
theorem blk_zero (r : Nat) : blk 0 r = 1 := by rw [blk, dif_pos rfl]
theorem blk_even {n : Nat} (r : Nat) (h : 0 < n) (h2 : n % 2 = 0) : blk n r = blk (n / 2) (r + 1) := by
  rw [blk, dif_neg (by omega), if_pos h2]
theorem blk_stop {n r : Nat} (h2 : n % 2 = 1) (hr : r % 2 = 1) : blk n r = 0 := by
  rw [blk, dif_neg (by omega), if_neg (by omega), if_pos hr]
theorem blk_odd {n r : Nat} (h2 : n % 2 = 1) (hr : r % 2 = 0) : blk n r = blk (n / 2) 0 := by
  rw [blk, dif_neg (by omega), if_neg (by omega), if_neg (by omega)]
theorem blk_jump : ∀ (z m r : Nat), blk (2 ^ z * (2 * m + 1)) r = if (r + z) % 2 = 1 then 0 else blk m 0
  | 0, m, r => by
    by_cases hr : r % 2 = 1
    · rw [blk_stop (by omega) hr, if_pos (by omega)]
    · rw [blk_odd (by omega) (by omega), if_neg (by omega)]
      congr 1
      omega
  | z + 1, m, r => by
    have e : 2 ^ (z + 1) * (2 * m + 1) = 2 * (2 ^ z * (2 * m + 1)) := by rw [Nat.pow_succ, Nat.mul_comm (2 ^ z) 2, Nat.mul_assoc]
    have hp : 0 < 2 ^ z * (2 * m + 1) := Nat.mul_pos (Nat.two_pow_pos z) (by omega)
    rw [e, blk_even r (by omega) (by omega), show 2 * (2 ^ z * (2 * m + 1)) / 2 = 2 ^ z * (2 * m + 1) by omega, blk_jump z m (r + 1)]
    congr 1
    exact propext ⟨fun _ => by omega, fun _ => by omega⟩
/-- A jump over zeros and the one above them. -/
theorem blk_shift {n : Nat} (h0 : 0 < n) (h : n < 2 ^ 64) : idx n < 64 ∧ n / 2 ^ (idx n + 1) < n ∧ (idx n % 2 = 1 → blk n 0 = 0) ∧ (idx n % 2 = 0 → blk n 0 = blk (n / 2 ^ (idx n + 1)) 0) := by
  obtain ⟨m, hm, hk⟩ := idx_split 64 n h0 h
  have hb := blk_jump (idx n) m 0
  rw [← hm, Nat.zero_add] at hb
  have hp := Nat.two_pow_pos (idx n)
  have e : n / 2 ^ (idx n + 1) = m := by
    have : n / 2 ^ (idx n + 1) = (2 ^ idx n * (2 * m + 1)) / 2 ^ idx n / 2 := by rw [← hm, Nat.pow_succ, Nat.div_div_eq_div_mul]
    rw [this, Nat.mul_div_cancel_left _ hp]
    omega
  have hmn : m < n := by
    have : 2 * m + 1 ≤ 2 ^ idx n * (2 * m + 1) := Nat.le_mul_of_pos_left _ hp
    omega
  exact ⟨hk, by rw [e]; exact hmn, fun h1 => by rw [hb, if_pos h1], fun h1 => by rw [hb, if_neg (by omega), e]⟩

/-- The number of a sequence. -/
def sq (kind n : Nat) : Nat :=
  if kind = 1 then pop 64 n % 2 else if kind = 2 then pop 64 (n &&& n / 2) % 2
  else if kind = 3 then (if 0 < n ∧ n / 2 ^ idx n % 4 = 3 then 1 else 0) else if kind = 4 then blk n 0 else if n = 0 then 0 else min 9 (idx n)
theorem blk_le (n r : Nat) : blk n r ≤ 1 := by
  induction n using Nat.strongRecOn generalizing r with
  | ind n ih =>
    by_cases h0 : n = 0
    · subst h0; rw [blk_zero]; omega
    · by_cases h2 : n % 2 = 0
      · rw [blk_even r (by omega) h2]; exact ih _ (by omega) _
      · by_cases hr : r % 2 = 1
        · rw [blk_stop (by omega) hr]; omega
        · rw [blk_odd (by omega) (by omega)]; exact ih _ (by omega) _
theorem sq_le (kind n : Nat) : sq kind n ≤ 9 := by
  have := blk_le n 0
  unfold sq
  split
  · omega
  split
  · omega
  split
  · split <;> omega
  split
  · omega
  split
  · omega
  · omega
end Go.Proofs.YtobbbaagoiejeaaDoor
