/- Contracts of placed, l15Digits, power, l14Power. Conditions: numbers of at most 10^18. -/
import Derived.Test.YtjdfpodmjpkfpaaRow
namespace Go.Proofs.Ytjdfpodmjpkfpaa
open Go.RowKit
set_option linter.unusedVariables false

/-- k digits of n in base b, the lowest first. -/
def plc (b : Int) : Nat → Int → List Int
  | 0, _ => []
  | k + 1, n => n % b :: plc b k (n / b)
theorem length_plc (b : Int) : ∀ (k : Nat) (n : Int), (plc b k n).length = k
  | 0, _ => rfl
  | k + 1, n => by simp [plc, length_plc b k]

set_option maxHeartbeats 1000000 in
theorem i_placed (n b : Int) (k : Nat) (w : World) (h0 : 0 ≤ n) (hn : n ≤ 1000000000000000000) (h1 : 2 ≤ b) (h2 : b ≤ 65536) (hk : k ≤ 64) :
    Calls Try.prog 56 #[.int .i64 n, .int .i64 b, .int .i64 k] w (RetL w (plc b k n)) := by
  obtain ⟨i0, hi, hz0, hz1, hz2⟩ := info_parts info_int
  go_enter Try.func56, Try.ntmps56
  go_wp2
  go_loopw [0, 7, 9] (fun m o i wr => ∃ (r : Int) (j : Nat) (l : List Int), j ≤ k ∧ i = .int .i64 j ∧ m = .int .i64 r ∧ 0 ≤ r ∧ r ≤ n ∧ l.length ≤ j ∧ Hid (plc b k n = l ++ plc b (k - j) r) ∧ Row wr w.heap.size o l ∧ Below w.heap.size w wr) (fun _ _ i _ => k - (intOf i).toNat)
  case atStart => exact ⟨n, 0, [], Nat.zero_le _, rfl, rfl, h0, Int.le_refl _, Nat.le_refl _, rfl, Row.nil _ _, Below.refl _ _⟩
  case round =>
    obtain ⟨r, j, l, hj, rfl, rfl, hr0, hrn, hlj, hD, hO, hW⟩ := hrel
    by_cases hlt : j < k
    · have hd0 : 0 ≤ r / b := Int.ediv_nonneg hr0 (by omega)
      have hd1 : r / b ≤ r := Int.ediv_le_self _ hr0
      have hw0 := hW.size
      have HW := Lib.hid hW
      clear hW
      have hll : l.length ≤ 64 := by omega
      go_wp2_with (first | (at_builtin; refine wpList_append_own _ rfl _ _ 24 rfl w.heap.size 3 i0 (.int .i64 0) 1 8 Try.underlying24 hi hz0 hz1 hz2 rfl (by decide) _ _ _ rfl (World.ownsRow.alloc hO _) ⟨wr.heap.size, 0, none⟩ 1 1 [.int .i64 (r % b)] rfl rfl (cell_one_new _ _ _) ?c1_1 ?c1_2 ?c1_3 ?c1_4 ?_))
      case c1_1 => first | rfl | (intro u hu; simp at hu; subst hu; rfl)
      case c1_2 => unfold maxLen; omega
      case c1_3 => omega
      case c1_4 => first | omega | (simp; omega)
      intro v1 w1 hown1 hgrow1 _
      have HO := Lib.hid (Row.app hown1)
      have HW1 := Lib.hid (Row.grow hO HW.out hgrow1)
      clear hown1 hgrow1 hO HW
      go_wp2
      go_roundw
      case rel => exact ⟨r / b, j + 1, l ++ [r % b], by omega, by go_num, rfl, hd0, by omega, by simp; omega, by have := hD.out; rw [show k - j = (k - (j + 1)) + 1 from by omega] at this; unfold Hid; rw [this]; simp [plc], HO.out, HW1.out⟩
      case measure => simp [intOf]; omega
    · obtain rfl : j = k := by omega
      go_wp2
      go_ret
      exact RetL.of hO hW (by have := hD.out; rw [Nat.sub_self] at this; simpa [plc] using this.symm)

set_option maxHeartbeats 1000000 in
theorem s_digits (n b : Int) (k : Nat) (w : World) (h0 : 0 ≤ n) (hn : n ≤ 1000000000000000000) (h1 : 2 ≤ b) (h2 : b ≤ 65536) (hk : k ≤ 64) :
    Calls Try.prog 61 #[.int .i64 n, .int .i64 b, .int .i64 k] w (RetL w (plc b k n)) := by
  obtain ⟨i0, hi, hz0, hz1, hz2⟩ := info_parts info_int
  go_enter Try.func61, Try.ntmps61
  go_wp2
  go_loopw [0, 7, 8] (fun m o i wr => ∃ (r : Int) (j : Nat) (l : List Int), j ≤ k ∧ i = .int .i64 j ∧ m = .int .i64 r ∧ 0 ≤ r ∧ r ≤ n ∧ l.length ≤ j ∧ Hid (plc b k n = l ++ plc b (k - j) r) ∧ Row wr w.heap.size o l ∧ Below w.heap.size w wr) (fun _ _ i _ => k - (intOf i).toNat)
  case atStart => exact ⟨n, 0, [], Nat.zero_le _, rfl, rfl, h0, Int.le_refl _, Nat.le_refl _, rfl, Row.made w, b_alloc (Below.refl _ _) _⟩
  case round =>
    obtain ⟨r, j, l, hj, rfl, rfl, hr0, hrn, hlj, hD, hO, hW⟩ := hrel
    by_cases hlt : j < k
    · have hd0 : 0 ≤ r / b := Int.ediv_nonneg hr0 (by omega)
      have hd1 : r / b ≤ r := Int.ediv_le_self _ hr0
      have hw0 := hW.size
      have HW := Lib.hid hW
      clear hW
      have hll : l.length ≤ 64 := by omega
      go_wp2_with (first | (at_builtin; refine wpList_append_own _ rfl _ _ 24 rfl w.heap.size 3 i0 (.int .i64 0) 1 8 Try.underlying24 hi hz0 hz1 hz2 rfl (by decide) _ _ _ rfl (World.ownsRow.alloc hO _) ⟨wr.heap.size, 0, none⟩ 1 1 [.int .i64 (r % b)] rfl rfl (cell_one_new _ _ _) ?c2_1 ?c2_2 ?c2_3 ?c2_4 ?_))
      case c2_1 => first | rfl | (intro u hu; simp at hu; subst hu; rfl)
      case c2_2 => unfold maxLen; omega
      case c2_3 => omega
      case c2_4 => first | omega | (simp; omega)
      intro v1 w1 hown1 hgrow1 _
      have HO := Lib.hid (Row.app hown1)
      have HW1 := Lib.hid (Row.grow hO HW.out hgrow1)
      clear hown1 hgrow1 hO HW
      go_wp2
      go_roundw
      case rel => exact ⟨r / b, j + 1, l ++ [r % b], by omega, by go_num, rfl, hd0, by omega, by simp; omega, by have := hD.out; rw [show k - j = (k - (j + 1)) + 1 from by omega] at this; unfold Hid; rw [this]; simp [plc], HO.out, HW1.out⟩
      case measure => simp [intOf]; omega
    · obtain rfl : j = k := by omega
      go_wp2
      go_ret
      exact RetL.of hO hW (by have := hD.out; rw [Nat.sub_self] at this; simpa [plc] using this.symm)

set_option maxHeartbeats 1000000 in
theorem i_power (b : Int) (k : Nat) (w : World) (h1 : 0 ≤ b) (hk : k ≤ 64) (hb : ∀ j, j ≤ k → b ^ j ≤ 1000000000000000000) :
    Calls Try.prog 55 #[.int .i64 b, .int .i64 k] w fun e w' => e = .returned (.int .i64 (b ^ k)) ∧ w = w' := by
  have HB := Lib.hid hb
  clear hb
  go_enter Try.func55, Try.ntmps55
  go_wp2
  go_loop [5, 7] (fun o i => ∃ j : Nat, j ≤ k ∧ i = .int .i64 j ∧ o = .int .i64 (b ^ j)) (fun _ i => k - (intOf i).toNat)
  case atStart => exact ⟨0, Nat.zero_le _, rfl, by simp⟩
  case round =>
    obtain ⟨j, hj, rfl, rfl⟩ := hrel
    by_cases hlt : j < k
    · obtain ⟨v, hv⟩ : ∃ v, v = b ^ j := ⟨_, rfl⟩
      have b1 : 0 ≤ v * b := Int.mul_nonneg (by rw [hv]; exact Int.pow_nonneg h1) h1
      have b2 : v * b ≤ 1000000000000000000 := by rw [hv, ← Int.pow_succ]; exact HB.out (j + 1) (by omega)
      have HS := Lib.hid (show b ^ (j + 1) = v * b by rw [hv, Int.pow_succ])
      rw [← hv]
      clear hv
      go_wp2
      go_round
      case rel => exact ⟨j + 1, by omega, by go_num, by rw [HS.out]⟩
      case measure => simp [intOf]; omega
    · obtain rfl : j = k := by omega
      go_wp2
      go_ret
      exact ⟨rfl, rfl⟩

set_option maxHeartbeats 1000000 in
theorem s_power (b : Int) (k : Nat) (w : World) (h1 : 0 ≤ b) (hk : k ≤ 64) (hb : ∀ j, j ≤ k → b ^ j ≤ 1000000000000000000) :
    Calls Try.prog 63 #[.int .i64 b, .int .i64 k] w fun e w' => e = .returned (.int .i64 (b ^ k)) ∧ w = w' := by
  have HB := Lib.hid hb
  clear hb
  go_enter Try.func63, Try.ntmps63
  go_wp2
  go_loop [5, 6] (fun o i => ∃ j : Nat, j ≤ k ∧ i = .int .i64 j ∧ o = .int .i64 (b ^ j)) (fun _ i => k - (intOf i).toNat)
  case atStart => exact ⟨0, Nat.zero_le _, rfl, by simp⟩
  case round =>
    obtain ⟨j, hj, rfl, rfl⟩ := hrel
    by_cases hlt : j < k
    · obtain ⟨v, hv⟩ : ∃ v, v = b ^ j := ⟨_, rfl⟩
      have b1 : 0 ≤ v * b := Int.mul_nonneg (by rw [hv]; exact Int.pow_nonneg h1) h1
      have b2 : v * b ≤ 1000000000000000000 := by rw [hv, ← Int.pow_succ]; exact HB.out (j + 1) (by omega)
      have HS := Lib.hid (show b ^ (j + 1) = v * b by rw [hv, Int.pow_succ])
      rw [← hv]
      clear hv
      go_wp2
      go_round
      case rel => exact ⟨j + 1, by omega, by go_num, by rw [HS.out]⟩
      case measure => simp [intOf]; omega
    · obtain rfl : j = k := by omega
      go_wp2
      go_ret
      exact ⟨rfl, rfl⟩
end Go.Proofs.Ytjdfpodmjpkfpaa
