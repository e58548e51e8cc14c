/- Contracts of gcd and l13Gcd. Conditions: numbers of at most 2^62. -/
import Derived.Test.YtnbhbifcjcfmaaaInvM
import Derived.Test.YtnbhbifcjcfmaaaRows
namespace Go.Proofs.Ytnbhbifcjcfmaaa
open Go.RowKit
set_option linter.unusedVariables false
set_option maxHeartbeats 1000000 in
theorem i_gcd (a b : Int) (w : World) (ha : -4611686018427387904 ≤ a) (ha2 : a ≤ 4611686018427387904) (hb : -4611686018427387904 ≤ b) (hb2 : b ≤ 4611686018427387904) :
    Calls Try.prog 42 #[.int .i64 a, .int .i64 b] w fun e w' => e = .returned (.int .i64 (Int.gcd a b)) ∧ Below w.heap.size w w' := by
  go_enter Try.func42, Try.ntmps42
  go_wp2
  go_loopw [0, 1] (fun x y wr => ∃ (r s : Int), x = .int .i64 r ∧ y = .int .i64 s ∧ -4611686018427387904 ≤ r ∧ r ≤ 4611686018427387904 ∧ -4611686018427387904 ≤ s ∧ s ≤ 4611686018427387904 ∧ Hid (Int.gcd a b = Int.gcd r s) ∧ Hid (Below w.heap.size w wr)) (fun _ s _ => (intOf s).natAbs)
  case atStart => exact ⟨a, b, rfl, rfl, ha, ha2, hb, hb2, rfl, Below.refl _ _⟩
  case round =>
    obtain ⟨r, s, rfl, rfl, r1, r2, s1, s2, hG, hW⟩ := hrel
    by_cases hlt : s = 0
    · subst hlt
      have HG := Lib.hid (hG.out.trans (Int.gcd_zero_right r))
      clear hG
      go_wp2
      all_goals (go_ret; exact ⟨by rw [HG.out]; first | rfl | (congr 1; simp; omega) | (congr 1; omega), hW.out⟩)
    · have t1 := tmod_lt r hlt
      have HG := Lib.hid (hG.out.trans (gcd_tmod r s).symm)
      clear hG
      have hz : (s != 0) = true := by simp; omega
      have hz2 : (s == 0) = false := by simp; omega
      go_wp2
      go_quiet (fail)
      go_wp2
      go_roundw
      case rel => exact ⟨s, _, rfl, rfl, by omega, by omega, by omega, by omega, HG.out, b_drewN hW.out _⟩
      case measure => exact t1

set_option maxHeartbeats 1000000 in
theorem s_gcd (a b : Int) (w : World) (ha : 0 ≤ a) (ha2 : a ≤ 4611686018427387904) (hb : 0 ≤ b) (hb2 : b ≤ 4611686018427387904) :
    Calls Try.prog 53 #[.int .i64 a, .int .i64 b] w fun e w' => e = .returned (.int .i64 (Int.gcd a b)) ∧ w = w' := by
  go_enter Try.func53, Try.ntmps53
  go_wp2
  go_loop [0, 1] (fun x y => ∃ (r s : Int), x = .int .i64 r ∧ y = .int .i64 s ∧ 0 ≤ r ∧ r ≤ 4611686018427387904 ∧ 0 ≤ s ∧ s ≤ 4611686018427387904 ∧ Hid (Int.gcd a b = Int.gcd r s)) (fun _ s => (intOf s).natAbs)
  case atStart => exact ⟨a, b, rfl, rfl, ha, ha2, hb, hb2, rfl⟩
  case round =>
    obtain ⟨r, s, rfl, rfl, r1, r2, s1, s2, hG⟩ := hrel
    by_cases hlt : s = 0
    · subst hlt
      have HG := Lib.hid (hG.out.trans (Int.gcd_zero_right r))
      clear hG
      go_wp2
      go_ret
      exact ⟨by rw [HG.out, show ((r.natAbs : Nat) : Int) = r by omega]; rfl, rfl⟩
    · have t1 := tmod_lt r hlt
      have HG := Lib.hid (hG.out.trans (gcd_tmod r s).symm)
      clear hG
      have hp : 0 < s := by omega
      have e1 : r.tmod s = r % s := Int.tmod_eq_emod_of_nonneg r1
      rw [e1] at t1 HG
      have e2 := Int.emod_nonneg r hlt
      clear e1
      go_wp2
      go_round
      case rel => exact ⟨s, _, rfl, rfl, by omega, by omega, by omega, by omega, HG.out⟩
      case measure => exact t1
end Go.Proofs.Ytnbhbifcjcfmaaa
