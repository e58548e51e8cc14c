/- Contract of impl.sequenceAt. Conditions: kinds from 1 to 5, numbers of at most 10^12, the listed table. -/
import Derived.Test.YtobbbaagoiejeaaDoorSeqT
namespace Go.Proofs.YtobbbaagoiejeaaDoor
open Go.RowKit
set_option linter.unusedVariables false

set_option maxHeartbeats 1000000 in
theorem i_at1 (n : Nat) (w : World) (hn : n ≤ 1000000000000) :
    Calls Tryd.prog 32 #[.int .i64 1, .int .i64 n] w fun e w' => e = .returned (.int .i64 (sq 1 n)) ∧ Below w.heap.size w w' := by
  have hp : pop 64 n ≤ 64 := (G_all n).2.2.2.2.2
  obtain ⟨p, hpe⟩ : ∃ p, p = pop 64 n := ⟨_, rfl⟩
  rw [← hpe] at hp
  have HPe := Lib.hid hpe
  clear hpe
  have kw : IntKind.u64.wrap (n : Int) = (n : Int) := wr64 n (by omega)
  go_enter Tryd.func32, Tryd.ntmps32
  go_wp2_with (first | (go_at_call 46; refine (ones n (by omega) _).mono ?_; rw [← HPe.out]; rintro e w1 ⟨rfl, rfl⟩))
  go_ret
  exact ⟨by unfold sq; rw [if_pos rfl, ← HPe.out]; rfl, Below.refl _ _⟩
set_option maxHeartbeats 1000000 in
theorem i_at2 (n : Nat) (w : World) (hn : n ≤ 1000000000000) :
    Calls Tryd.prog 32 #[.int .i64 2, .int .i64 n] w fun e w' => e = .returned (.int .i64 (sq 2 n)) ∧ Below w.heap.size w w' := by
  have hy : n &&& n / 2 ≤ n := Nat.and_le_left
  have k1 : bits BinOp.and IntKind.i64 (n : Int) ((n : Int) / 2) = ((n &&& n / 2 : Nat) : Int) := and_i64 n (n / 2) (by omega) (by omega)
  obtain ⟨y, hye⟩ : ∃ y, y = n &&& n / 2 := ⟨_, rfl⟩
  rw [← hye] at hy k1
  have HY := Lib.hid hye
  clear hye
  have hp : pop 64 y ≤ 64 := (G_all y).2.2.2.2.2
  obtain ⟨p, hpe⟩ : ∃ p, p = pop 64 y := ⟨_, rfl⟩
  rw [← hpe] at hp
  have HPe := Lib.hid hpe
  clear hpe
  have kw : IntKind.u64.wrap (y : Int) = (y : Int) := wr64 y (by omega)
  go_enter Tryd.func32, Tryd.ntmps32
  go_wp2_with (first | (go_at_call 46; refine (ones y (by omega) _).mono ?_; rw [← HPe.out]; rintro e w1 ⟨rfl, rfl⟩))
  go_ret
  exact ⟨by unfold sq; rw [if_neg (by decide), if_pos rfl, ← HY.out, ← HPe.out]; rfl, Below.refl _ _⟩
set_option maxHeartbeats 1000000 in
theorem i_at3 (n : Nat) (w : World) (hn : n ≤ 1000000000000) (hT : Tab w) :
    Calls Tryd.prog 32 #[.int .i64 3, .int .i64 n] w fun e w' => e = .returned (.int .i64 (sq 3 n)) ∧ Below w.heap.size w w' := by
  by_cases h0 : 0 < n
  · have hz64 : idx n < 64 := by obtain ⟨_, _, h⟩ := idx_split 64 n h0 (by omega); exact h
    obtain ⟨z, hz⟩ : ∃ z, z = idx n := ⟨_, rfl⟩
    rw [← hz] at hz64
    have HZ := Lib.hid hz
    clear hz
    obtain ⟨y, hy⟩ : ∃ y, y = n / 2 ^ z := ⟨_, rfl⟩
    have hyn : y ≤ n := by rw [hy]; exact Nat.div_le_self _ _
    have k1 : (n : Int) / 2 ^ z = (y : Int) := by rw [hy]; simp
    have k2 : bits BinOp.and IntKind.i64 (y : Int) 3 = ((y % 4 : Nat) : Int) := by
      have h := and_i64 y 3 (by omega) (by omega)
      rwa [show y &&& 3 = y % 4 from Nat.and_two_pow_sub_one_eq_mod y 2] at h
    have kw : IntKind.u64.wrap (n : Int) = (n : Int) := wr64 n (by omega)
    have HY := Lib.hid hy
    clear hy
    by_cases h3 : y % 4 = 3
    · have t1 : ((y : Int) % 4 == 3) = true := by simp; omega
      have t2 : (((y % 4 : Nat) : Int) == 3) = true := by simp; omega
      have H3 := Lib.hid h3
      clear h3
      go_enter Tryd.func32, Tryd.ntmps32
      go_wp2_with (first | (go_at_call 47; refine (tz n h0 (by omega) _ hT).mono ?_; rw [← HZ.out]; rintro e w1 ⟨rfl, rfl⟩))
      go_ret
      exact ⟨by unfold sq; rw [if_neg (by decide), if_neg (by decide), if_pos rfl, ← HZ.out, ← HY.out, if_pos ⟨h0, H3.out⟩]; rfl, Below.refl _ _⟩
    · have t1 : ((y : Int) % 4 == 3) = false := by simp; omega
      have t2 : (((y % 4 : Nat) : Int) == 3) = false := by simp; omega
      have H3 := Lib.hid h3
      clear h3
      go_enter Tryd.func32, Tryd.ntmps32
      go_wp2_with (first | (go_at_call 47; refine (tz n h0 (by omega) _ hT).mono ?_; rw [← HZ.out]; rintro e w1 ⟨rfl, rfl⟩))
      go_ret
      exact ⟨by unfold sq; rw [if_neg (by decide), if_neg (by decide), if_pos rfl, ← HZ.out, ← HY.out, if_neg (fun h => H3.out h.2)]; rfl, Below.refl _ _⟩
  · obtain rfl : n = 0 := by omega
    go_enter Tryd.func32, Tryd.ntmps32
    go_wp2_with (first | (go_at_call 47; refine (tz n h0 (by omega) _ hT).mono ?_; rw [← HZ.out]; rintro e w1 ⟨rfl, rfl⟩))
    go_ret
    exact ⟨rfl, Below.refl _ _⟩
set_option maxHeartbeats 1000000 in
theorem i_at5 (n : Nat) (w : World) (hn : n ≤ 1000000000000) (hT : Tab w) :
    Calls Tryd.prog 32 #[.int .i64 5, .int .i64 n] w fun e w' => e = .returned (.int .i64 (sq 5 n)) ∧ Below w.heap.size w w' := by
  by_cases h0 : 0 < n
  · have hz64 : idx n < 64 := by obtain ⟨_, _, h⟩ := idx_split 64 n h0 (by omega); exact h
    obtain ⟨z, hz⟩ : ∃ z, z = idx n := ⟨_, rfl⟩
    rw [← hz] at hz64
    have HZ := Lib.hid hz
    clear hz
    have kw : IntKind.u64.wrap (n : Int) = (n : Int) := wr64 n (by omega)
    have t0 : ((n : Int) == 0) = false := by simp; omega
    by_cases h9 : 9 ≤ z
    · go_enter Tryd.func32, Tryd.ntmps32
      go_wp2_with (first | (go_at_call 47; refine (tz n h0 (by omega) _ hT).mono ?_; rw [← HZ.out]; rintro e w1 ⟨rfl, rfl⟩))
      go_ret
      refine ⟨?_, Below.refl _ _⟩
      have e : sq 5 n = 9 := by unfold sq; rw [if_neg (by decide), if_neg (by decide), if_neg (by decide), if_neg (by decide), if_neg (by omega), ← HZ.out]; omega
      rw [e]
      first | (simp; done) | (simp; omega)
    · go_enter Tryd.func32, Tryd.ntmps32
      go_wp2_with (first | (go_at_call 47; refine (tz n h0 (by omega) _ hT).mono ?_; rw [← HZ.out]; rintro e w1 ⟨rfl, rfl⟩))
      go_ret
      refine ⟨?_, Below.refl _ _⟩
      have e : sq 5 n = z := by unfold sq; rw [if_neg (by decide), if_neg (by decide), if_neg (by decide), if_neg (by decide), if_neg (by omega), ← HZ.out]; omega
      rw [e]
      first | (simp; done) | (simp; omega)
  · obtain rfl : n = 0 := by omega
    go_enter Tryd.func32, Tryd.ntmps32
    go_wp2_with (first | (go_at_call 47; refine (tz n h0 (by omega) _ hT).mono ?_; rw [← HZ.out]; rintro e w1 ⟨rfl, rfl⟩))
    go_ret
    exact ⟨rfl, Below.refl _ _⟩
set_option maxHeartbeats 1000000 in
theorem i_at4 (n : Nat) (w : World) (hn : n ≤ 1000000000000) (hT : Tab w) :
    Calls Tryd.prog 32 #[.int .i64 4, .int .i64 n] w fun e w' => e = .returned (.int .i64 (sq 4 n)) ∧ Below w.heap.size w w' := by
  go_enter Tryd.func32, Tryd.ntmps32
  go_wp2
  go_loop [1] (fun v => ∃ m : Nat, v = .int .i64 m ∧ m ≤ n ∧ Hid (blk m 0 = blk n 0)) (fun v => (intOf v).toNat)
  case atStart => exact ⟨n, rfl, Nat.le_refl _, Lib.hid rfl⟩
  case round =>
    obtain ⟨m, rfl, hm, HQ⟩ := hrel
    by_cases h0 : 0 < m
    · obtain ⟨hz64, hlt, hodd, heven⟩ := blk_shift h0 (by omega)
      obtain ⟨z, hz⟩ : ∃ z, z = idx m := ⟨_, rfl⟩
      rw [← hz] at hz64 hlt hodd heven
      have HZ := Lib.hid hz
      have HO := Lib.hid hodd
      have HE := Lib.hid heven
      clear hz hodd heven
      obtain ⟨y, hy⟩ : ∃ y, y = m / 2 ^ (z + 1) := ⟨_, rfl⟩
      rw [← hy] at hlt
      have k1 : (m : Int) / 2 ^ (z + 1) = (y : Int) := by rw [hy]; simp
      have kw : IntKind.u64.wrap (m : Int) = (m : Int) := wr64 m (by omega)
      have HY := Lib.hid hy
      clear hy
      by_cases h2 : z % 2 = 1
      · have t1 : ((z : Int) % 2 == 1) = true := by simp; omega
        have HR := Lib.hid (HO.out h2)
        go_wp2_with (first | (go_at_call 47; refine (tz m h0 (by omega) _ hT).mono ?_; rw [← HZ.out]; rintro e w1 ⟨rfl, rfl⟩))
        go_ret
        exact ⟨by have e : sq 4 n = 0 := (by unfold sq; rw [if_neg (by decide), if_neg (by decide), if_neg (by decide), if_pos rfl, ← HQ.out, HR.out]); rw [e]; rfl, Below.refl _ _⟩
      · have t1 : ((z : Int) % 2 == 1) = false := by simp; omega
        have HR := Lib.hid (HE.out (by omega))
        go_wp2_with (first | (go_at_call 47; refine (tz m h0 (by omega) _ hT).mono ?_; rw [← HZ.out]; rintro e w1 ⟨rfl, rfl⟩))
        go_round
        case rel => exact ⟨y, rfl, by omega, Lib.hid (by rw [HY.out, ← HR.out, HQ.out])⟩
        case measure => simp [intOf]; omega
    · obtain rfl : m = 0 := by omega
      go_wp2
      go_ret
      exact ⟨by have e : sq 4 n = 1 := (by unfold sq; rw [if_neg (by decide), if_neg (by decide), if_neg (by decide), if_pos rfl, ← HQ.out, blk_zero]); rw [e]; rfl, Below.refl _ _⟩

theorem i_at (k n : Nat) (w : World) (h1 : 1 ≤ k) (h5 : k ≤ 5) (hn : n ≤ 1000000000000) (hT : Tab w) :
    Calls Tryd.prog 32 #[.int .i64 (k : Nat), .int .i64 (n : Nat)] w fun e w' => e = .returned (.int .i64 (sq k n)) ∧ Below w.heap.size w w' :=
  match k, h1, h5 with
  | 1, _, _ => i_at1 n w hn
  | 2, _, _ => i_at2 n w hn
  | 3, _, _ => i_at3 n w hn hT
  | 4, _, _ => i_at4 n w hn hT
  | 5, _, _ => i_at5 n w hn hT
end Go.Proofs.YtobbbaagoiejeaaDoor
