/- Contracts of inverse, l13Inverse, gcd and l13Gcd. Conditions: numbers of at most 10^9 (inverse), 2^62 (gcd). -/
import Derived.Test.YtjdfpodmjpkfpaaInvM
import Derived.Test.YtjdfpodmjpkfpaaMod
namespace Go.Proofs.Ytjdfpodmjpkfpaa
open Go.RowKit
set_option linter.unusedVariables false

set_option maxHeartbeats 1000000 in
theorem i_inv (a m : Int) (w : World) (h0 : 0 ≤ a) (hm : 1 ≤ m) (hm2 : m ≤ 1000000000) :
    Calls Try.prog 57 #[.int .i64 a, .int .i64 m] w fun e w' => e = .returned (.int .i64 (inv a m)) ∧ Below w.heap.size w w' := by
  have HS := Lib.hid (EI.start (a := a) hm)
  have HI := Lib.hid (show inv a m = if (eg (m.toNat + 1) m (a % m) 0 1).1 = 1 then (eg (m.toNat + 1) m (a % m) 0 1).2 % m else -1 from rfl)
  have g1 := Int.emod_nonneg a (show m ≠ 0 by omega)
  have g2 := Int.emod_lt_of_pos a (show 0 < m by omega)
  have e1 : a.tmod m = a % m := Int.tmod_eq_emod_of_nonneg h0
  go_enter Try.func57, Try.ntmps57
  go_wp2
  go_quiet (fail)
  clear e1
  go_wp2
  go_loop [5, 6, 7, 8] (fun r s x y => ∃ (f : Nat) (r' s' x' y' : Int), r = .int .i64 r' ∧ s = .int .i64 s' ∧ x = .int .i64 x' ∧ y = .int .i64 y' ∧ s' < f ∧ Hid (EI m a r' s' x' y') ∧ Hid (eg (m.toNat + 1) m (a % m) 0 1 = eg f r' s' x' y')) (fun _ s _ _ => (intOf s).toNat)
  case atStart => exact ⟨m.toNat + 1, m, a % m, 0, 1, rfl, rfl, rfl, rfl, by omega, HS.out, rfl⟩
  case round =>
    obtain ⟨f, r, s, x, y, rfl, rfl, rfl, rfl, hf, hE, hD⟩ := hrel
    have s0 := hE.out.s0
    have r1 := hE.out.r1
    have rm := hE.out.rm
    have sm := hE.out.sm
    have x1 := hE.out.x1
    have x2 := hE.out.x2
    have y1 := hE.out.y1
    have y2 := hE.out.y2
    by_cases hlt : 0 < s
    · obtain ⟨f, rfl⟩ : ∃ q, f = q + 1 := ⟨f - 1, by omega⟩
      obtain ⟨hN, k1, k2, k3, k4, k5, k6, k7⟩ := hE.out.step hlt
      have hD2 := hD.out.trans (eg_succ hlt)
      have HN := Lib.hid hN
      have HD2 := Lib.hid hD2
      clear hN hD2 hD hE
      have hz : (s != 0) = true := by simp; omega
      have hz2 : (s == 0) = false := by simp; omega
      go_wp2
      go_round
      case rel => exact ⟨f, s, _, y, _, rfl, rfl, rfl, rfl, by omega, HN.out, HD2.out⟩
      case measure => simp [intOf]; omega
    · obtain rfl : s = 0 := by omega
      have hD2 := hD.out.trans eg_zero
      rw [hD2] at HI
      clear hD2 hD hE
      obtain ⟨b1, b2⟩ := tmod_bd x (show 0 < m by omega)
      have HE := Lib.hid (show x.tmod m % m = x % m by rw [← tmod_emod x m, Int.add_emod_right])
      by_cases h1 : r = 1
      · subst h1
        have HI2 := Lib.hid (show inv a m = x % m by rw [HI.out]; rfl)
        clear HI
        go_wp2
        go_ret
        exact ⟨by rw [HI2.out, ← HE.out]; rfl, b_drewN (Below.refl _ _) _⟩
      · have HI2 := Lib.hid (show inv a m = -1 by rw [HI.out]; exact if_neg h1)
        have hz : (r != 1) = true := by simp; omega
        have hz2 : (r == 1) = false := by simp; omega
        clear HI h1
        go_wp2
        go_ret
        exact ⟨by rw [HI2.out]; rfl, b_drewN (Below.refl _ _) _⟩

set_option maxHeartbeats 1000000 in
theorem s_inv (a m : Int) (w : World) (h0 : 0 ≤ a) (hm : 1 ≤ m) (hm2 : m ≤ 1000000000) :
    Calls Try.prog 67 #[.int .i64 a, .int .i64 m] w fun e w' => e = .returned (.int .i64 (inv a m)) ∧ w = w' := by
  have HS := Lib.hid (EI.start (a := a) hm)
  have HI := Lib.hid (show inv a m = if (eg (m.toNat + 1) m (a % m) 0 1).1 = 1 then (eg (m.toNat + 1) m (a % m) 0 1).2 % m else -1 from rfl)
  have g1 := Int.emod_nonneg a (show m ≠ 0 by omega)
  have g2 := Int.emod_lt_of_pos a (show 0 < m by omega)
  go_enter Try.func67, Try.ntmps67
  go_wp2
  go_loop [5, 6, 7, 8] (fun r s x y => ∃ (f : Nat) (r' s' x' y' : Int), r = .int .i64 r' ∧ s = .int .i64 s' ∧ x = .int .i64 x' ∧ y = .int .i64 y' ∧ s' < f ∧ Hid (EI m a r' s' x' y') ∧ Hid (eg (m.toNat + 1) m (a % m) 0 1 = eg f r' s' x' y')) (fun _ s _ _ => (intOf s).toNat)
  case atStart => exact ⟨m.toNat + 1, m, a % m, 0, 1, rfl, rfl, rfl, rfl, by omega, HS.out, rfl⟩
  case round =>
    obtain ⟨f, r, s, x, y, rfl, rfl, rfl, rfl, hf, hE, hD⟩ := hrel
    have s0 := hE.out.s0
    have r1 := hE.out.r1
    have rm := hE.out.rm
    have sm := hE.out.sm
    have x1 := hE.out.x1
    have x2 := hE.out.x2
    have y1 := hE.out.y1
    have y2 := hE.out.y2
    by_cases hlt : 0 < s
    · obtain ⟨f, rfl⟩ : ∃ q, f = q + 1 := ⟨f - 1, by omega⟩
      obtain ⟨hN, k1, k2, k3, k4, k5, k6, k7⟩ := hE.out.step hlt
      have hD2 := hD.out.trans (eg_succ hlt)
      have HN := Lib.hid hN
      have HD2 := Lib.hid hD2
      clear hN hD2 hD hE
      have hz : (s != 0) = true := by simp; omega
      have hz2 : (s == 0) = false := by simp; omega
      go_wp2
      go_round
      case rel => exact ⟨f, s, _, y, _, rfl, rfl, rfl, rfl, by omega, HN.out, HD2.out⟩
      case measure => simp [intOf]; omega
    · obtain rfl : s = 0 := by omega
      have hD2 := hD.out.trans eg_zero
      rw [hD2] at HI
      clear hD2 hD hE
      obtain ⟨b1, b2⟩ := tmod_bd x (show 0 < m by omega)
      have HE := Lib.hid (show x.tmod m % m = x % m by rw [← tmod_emod x m, Int.add_emod_right])
      by_cases h1 : r = 1
      · subst h1
        have HI2 := Lib.hid (show inv a m = x % m by rw [HI.out]; rfl)
        clear HI
        go_wp2
        go_ret
        exact ⟨by rw [HI2.out, ← HE.out]; rfl, rfl⟩
      · have HI2 := Lib.hid (show inv a m = -1 by rw [HI.out]; exact if_neg h1)
        have hz : (r != 1) = true := by simp; omega
        have hz2 : (r == 1) = false := by simp; omega
        clear HI h1
        go_wp2
        go_ret
        exact ⟨by rw [HI2.out]; rfl, rfl⟩

set_option maxHeartbeats 1000000 in
theorem i_gcd (a b : Int) (w : World) (ha : -4611686018427387904 ≤ a) (ha2 : a ≤ 4611686018427387904) (hb : -4611686018427387904 ≤ b) (hb2 : b ≤ 4611686018427387904) :
    Calls Try.prog 59 #[.int .i64 a, .int .i64 b] w fun e w' => e = .returned (.int .i64 (Int.gcd a b)) ∧ Below w.heap.size w w' := by
  go_enter Try.func59, Try.ntmps59
  go_wp2
  go_loopw [0, 1] (fun x y wr => ∃ (r s : Int), x = .int .i64 r ∧ y = .int .i64 s ∧ -4611686018427387904 ≤ r ∧ r ≤ 4611686018427387904 ∧ -4611686018427387904 ≤ s ∧ s ≤ 4611686018427387904 ∧ Hid (Int.gcd a b = Int.gcd r s) ∧ Hid (Below w.heap.size w wr)) (fun _ s _ => (intOf s).natAbs)
  case atStart => exact ⟨a, b, rfl, rfl, ha, ha2, hb, hb2, rfl, Below.refl _ _⟩
  case round =>
    obtain ⟨r, s, rfl, rfl, r1, r2, s1, s2, hG, hW⟩ := hrel
    by_cases hlt : s = 0
    · subst hlt
      have HG := Lib.hid (hG.out.trans (Int.gcd_zero_right r))
      clear hG
      go_wp2
      all_goals (go_ret; exact ⟨by rw [HG.out]; first | rfl | (congr 1; simp; omega) | (congr 1; omega), hW.out⟩)
    · have t1 := tmod_lt r hlt
      have HG := Lib.hid (hG.out.trans (gcd_tmod r s).symm)
      clear hG
      have hz : (s != 0) = true := by simp; omega
      have hz2 : (s == 0) = false := by simp; omega
      go_wp2
      go_quiet (fail)
      go_wp2
      go_roundw
      case rel => exact ⟨s, _, rfl, rfl, by omega, by omega, by omega, by omega, HG.out, b_drewN hW.out _⟩
      case measure => exact t1

set_option maxHeartbeats 1000000 in
theorem s_gcd (a b : Int) (w : World) (ha : 0 ≤ a) (ha2 : a ≤ 4611686018427387904) (hb : 0 ≤ b) (hb2 : b ≤ 4611686018427387904) :
    Calls Try.prog 64 #[.int .i64 a, .int .i64 b] w fun e w' => e = .returned (.int .i64 (Int.gcd a b)) ∧ w = w' := by
  go_enter Try.func64, Try.ntmps64
  go_wp2
  go_loop [0, 1] (fun x y => ∃ (r s : Int), x = .int .i64 r ∧ y = .int .i64 s ∧ 0 ≤ r ∧ r ≤ 4611686018427387904 ∧ 0 ≤ s ∧ s ≤ 4611686018427387904 ∧ Hid (Int.gcd a b = Int.gcd r s)) (fun _ s => (intOf s).natAbs)
  case atStart => exact ⟨a, b, rfl, rfl, ha, ha2, hb, hb2, rfl⟩
  case round =>
    obtain ⟨r, s, rfl, rfl, r1, r2, s1, s2, hG⟩ := hrel
    by_cases hlt : s = 0
    · subst hlt
      have HG := Lib.hid (hG.out.trans (Int.gcd_zero_right r))
      clear hG
      go_wp2
      go_ret
      exact ⟨by rw [HG.out, show ((r.natAbs : Nat) : Int) = r by omega]; rfl, rfl⟩
    · have t1 := tmod_lt r hlt
      have HG := Lib.hid (hG.out.trans (gcd_tmod r s).symm)
      clear hG
      have hp : 0 < s := by omega
      have e1 : r.tmod s = r % s := Int.tmod_eq_emod_of_nonneg r1
      rw [e1] at t1 HG
      have e2 := Int.emod_nonneg r hlt
      clear e1
      go_wp2
      go_round
      case rel => exact ⟨s, _, rfl, rfl, by omega, by omega, by omega, by omega, HG.out⟩
      case measure => exact t1
end Go.Proofs.Ytjdfpodmjpkfpaa
