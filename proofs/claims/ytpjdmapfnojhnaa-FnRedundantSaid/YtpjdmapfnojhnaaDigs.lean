/- The digits of a number of at least 0: contracts of impl.digitsOf and spec.l02Digits. Conditions: 2 ≤ b, numbers below 2^62. -/
import Derived.Test.YtpjdmapfnojhnaaRow
namespace Go.Proofs.Ytpjdmapfnojhnaa
open Go.RowKit
set_option linter.unusedVariables false

/-- The digits of m in base b, the lowest first; f bounds their number. -/
def dg (b : Int) : Nat → Int → List Int
  | 0, _ => []
  | f + 1, m => if 0 < m then m % b :: dg b f (m / b) else []

theorem dg_pos {b : Int} {f : Nat} {m : Int} (h : 0 < m) : dg b (f + 1) m = m % b :: dg b f (m / b) := by simp [dg, h]
theorem dg_zero {b : Int} {f : Nat} : dg b f 0 = [] := by cases f <;> simp [dg]
theorem length_dg (b : Int) : ∀ (f : Nat) (m : Int), (dg b f m).length ≤ f
  | 0, _ => by simp [dg]
  | f + 1, m => by
    unfold dg
    split
    · simpa using length_dg b f (m / b)
    · simp
def digs (b m : Int) : List Int := dg b 64 m

set_option maxHeartbeats 1000000 in
theorem i_digitsOf (n b : Int) (w : World) (h0 : 0 ≤ n) (hn : n < 4611686018427387904) (hb : 2 ≤ b) (hb2 : b ≤ 65536) :
    Calls Try.prog 48 #[.int .i64 n, .int .i64 b] w (RetL w (digs b n)) := by
  obtain ⟨i0, hi, hz0, hz1, hz2⟩ := info_parts info_int
  go_enter Try.func48, Try.ntmps48
  go_wp2
  go_loopw [0, 5] (fun m o wr => ∃ (r : Int) (f : Nat) (l : List Int), m = .int .i64 r ∧ 0 ≤ r ∧ r ≤ n ∧ r < 2 ^ f ∧ f ≤ 64 ∧ l.length + f = 64 ∧ Hid (digs b n = l ++ dg b f r) ∧ Row wr w.heap.size o l ∧ Below w.heap.size w wr) (fun m _ _ => (intOf m).toNat)
  case atStart => exact ⟨n, 64, [], rfl, h0, Int.le_refl _, by omega, by omega, rfl, rfl, Row.nil _ _, Below.refl _ _⟩
  case round =>
    obtain ⟨r, f, l, rfl, hr0, hrn, hrf, hf, hlf, hD, hO, hW⟩ := hrel
    by_cases hlt : 0 < r
    · obtain ⟨f, rfl⟩ : ∃ q, f = q + 1 := by
        cases f with
        | zero => simp at hrf; omega
        | succ q => exact ⟨q, rfl⟩
      have hd0 : 0 ≤ r / b := Int.ediv_nonneg hr0 (by omega)
      have hd1 : r / b < r := Int.ediv_lt_of_lt_mul (by omega) (by have : r * 2 ≤ r * b := Int.mul_le_mul_of_nonneg_left hb hr0; omega)
      have hd2 : r / b < 2 ^ f := Int.ediv_lt_of_lt_mul (by omega) (by have : (2:Int) ^ f * 2 ≤ 2 ^ f * b := Int.mul_le_mul_of_nonneg_left hb (Int.le_of_lt (Int.pow_pos (by omega))); rw [Int.pow_succ] at hrf; omega)
      have HF := Lib.hid hrf
      have HD2 := Lib.hid hd2
      have hw0 := hW.size
      have HL := Lib.hid hlf
      clear hrf hd2 hlf
      have hll : l.length ≤ 64 := by have := HL.out; omega
      have HW := Lib.hid hW
      clear hW
      go_wp2_with (at_builtin; refine wpList_append_own _ rfl _ _ 25 rfl w.heap.size 3 i0 (.int .i64 0) 1 8 Try.underlying25 hi hz0 hz1 hz2 rfl (by decide) _ _ _ rfl (World.ownsRow.alloc hO _) ⟨wr.heap.size, 0, none⟩ 1 1 [.int .i64 (r % b)] rfl rfl (cell_one_new _ _ _) ?c1 ?c2 ?c3 ?c4 ?_)
      case c1 => intro u hu; simp at hu; subst hu; rfl
      case c2 => unfold maxLen; omega
      case c3 => omega
      case c4 => simp; omega
      intro v1 w1 hown1 hgrow1 _
      have HO := Lib.hid (Row.app hown1)
      have HW1 := Lib.hid (Row.grow hO HW.out hgrow1)
      clear hown1 hgrow1 hO HW
      go_wp2
      go_roundw
      case rel => exact ⟨r / b, f, l ++ [r % b], rfl, hd0, by omega, HD2.out, by omega, by have := HL.out; simp; omega, by have := hD.out; rw [dg_pos hlt] at this; unfold Hid; rw [this]; simp, HO.out, HW1.out⟩
      case measure => simp [intOf]; omega
    · obtain rfl : r = 0 := by omega
      go_wp2
      go_ret
      exact RetL.of hO hW (by have := hD.out; rw [dg_zero] at this; simpa using this.symm)
set_option maxHeartbeats 1000000 in
theorem s_l02Digits (n b : Int) (w : World) (h0 : 0 ≤ n) (hn : n < 4611686018427387904) (hb : 2 ≤ b) (hb2 : b ≤ 65536) :
    Calls Try.prog 47 #[.int .i64 n, .int .i64 b] w (RetL w (digs b n)) := by
  obtain ⟨i0, hi, hz0, hz1, hz2⟩ := info_parts info_int
  go_enter Try.func47, Try.ntmps47
  go_wp2
  go_loopw [0, 5] (fun m o wr => ∃ (r : Int) (f : Nat) (l : List Int), m = .int .i64 r ∧ 0 ≤ r ∧ r ≤ n ∧ r < 2 ^ f ∧ f ≤ 64 ∧ l.length + f = 64 ∧ Hid (digs b n = l ++ dg b f r) ∧ Row wr w.heap.size o l ∧ Below w.heap.size w wr) (fun m _ _ => (intOf m).toNat)
  case atStart => exact ⟨n, 64, [], rfl, h0, Int.le_refl _, by omega, by omega, rfl, rfl, Row.made w, b_alloc (Below.refl _ _) _⟩
  case round =>
    obtain ⟨r, f, l, rfl, hr0, hrn, hrf, hf, hlf, hD, hO, hW⟩ := hrel
    by_cases hlt : 0 < r
    · obtain ⟨f, rfl⟩ : ∃ q, f = q + 1 := by
        cases f with
        | zero => simp at hrf; omega
        | succ q => exact ⟨q, rfl⟩
      have hd0 : 0 ≤ r / b := Int.ediv_nonneg hr0 (by omega)
      have hd1 : r / b < r := Int.ediv_lt_of_lt_mul (by omega) (by have : r * 2 ≤ r * b := Int.mul_le_mul_of_nonneg_left hb hr0; omega)
      have hd2 : r / b < 2 ^ f := Int.ediv_lt_of_lt_mul (by omega) (by have : (2:Int) ^ f * 2 ≤ 2 ^ f * b := Int.mul_le_mul_of_nonneg_left hb (Int.le_of_lt (Int.pow_pos (by omega))); rw [Int.pow_succ] at hrf; omega)
      have HF := Lib.hid hrf
      have HD2 := Lib.hid hd2
      have hw0 := hW.size
      have HL := Lib.hid hlf
      clear hrf hd2 hlf
      have hll : l.length ≤ 64 := by have := HL.out; omega
      have HW := Lib.hid hW
      clear hW
      go_wp2_with (at_builtin; refine wpList_append_own _ rfl _ _ 25 rfl w.heap.size 3 i0 (.int .i64 0) 1 8 Try.underlying25 hi hz0 hz1 hz2 rfl (by decide) _ _ _ rfl (World.ownsRow.alloc hO _) ⟨wr.heap.size, 0, none⟩ 1 1 [.int .i64 (r % b)] rfl rfl (cell_one_new _ _ _) ?c1 ?c2 ?c3 ?c4 ?_)
      case c1 => intro u hu; simp at hu; subst hu; rfl
      case c2 => unfold maxLen; omega
      case c3 => omega
      case c4 => simp; omega
      intro v1 w1 hown1 hgrow1 _
      have HO := Lib.hid (Row.app hown1)
      have HW1 := Lib.hid (Row.grow hO HW.out hgrow1)
      clear hown1 hgrow1 hO HW
      go_wp2
      go_roundw
      case rel => exact ⟨r / b, f, l ++ [r % b], rfl, hd0, by omega, HD2.out, by omega, by have := HL.out; simp; omega, by have := hD.out; rw [dg_pos hlt] at this; unfold Hid; rw [this]; simp, HO.out, HW1.out⟩
      case measure => simp [intOf]; omega
    · obtain rfl : r = 0 := by omega
      go_wp2
      go_ret
      exact RetL.of hO hW (by have := hD.out; rw [dg_zero] at this; simpa using this.symm)
end Go.Proofs.Ytpjdmapfnojhnaa
