/- Contract of l19At. Conditions: kinds from 1 to 5, numbers of at most 10^12. -/
import Derived.Test.YtobbbaagoiejeaaDoorSeqS
namespace Go.Proofs.YtobbbaagoiejeaaDoor
open Go.RowKit
set_option linter.unusedVariables false

set_option maxHeartbeats 1000000 in
theorem s_at1 (n : Nat) (w : World) (hn : n ≤ 1000000000000) :
    Calls Tryd.prog 29 #[.int .i64 1, .int .i64 n] w fun e w' => e = .returned (.int .i64 (sq 1 n)) ∧ Below w.heap.size w w' := by
  have HD : Hid (lsum (digs 2 (n : Nat)) = (pop 64 n : Nat)) := Lib.hid (lsum_dg 64 n)
  have hl := length_dg 2 64 ((n : Nat) : Int)
  have hp : pop 64 n ≤ 64 := (G_all n).2.2.2.2.2
  obtain ⟨p, hpe⟩ : ∃ p, p = pop 64 n := ⟨_, rfl⟩
  rw [← hpe] at hp
  have HPe := Lib.hid hpe
  clear hpe
  go_enter Tryd.func29, Tryd.ntmps29
  go_wp2_with (first | (go_at_call 43; refine (s_l02Digits ((n : Nat) : Int) 2 _ (by omega) (by omega) (by omega) (by omega)).mono ?_; rintro e w1 ⟨A1, c1, rfl, hO, hb1⟩; have HO := Lib.hid hO; have HB1 := Lib.hid hb1; clear hO hb1) | (go_at_call 42; refine (s_sum A1 _ _ _ HO.out.reads hl (dg_le 64 n)).mono ?_; rw [HD.out, ← HPe.out]; rintro e w2 ⟨rfl, rfl⟩))
  go_ret
  exact ⟨by unfold sq; rw [if_pos rfl, ← HPe.out]; rfl, HB1.out⟩
set_option maxHeartbeats 1000000 in
theorem s_at2 (n : Nat) (w : World) (hn : n ≤ 1000000000000) :
    Calls Tryd.prog 29 #[.int .i64 2, .int .i64 n] w fun e w' => e = .returned (.int .i64 (sq 2 n)) ∧ Below w.heap.size w w' := by
  have hy : n &&& n / 2 ≤ n := Nat.and_le_left
  have k1 : bits BinOp.and IntKind.i64 (n : Int) ((n : Int) / 2) = ((n &&& n / 2 : Nat) : Int) := and_i64 n (n / 2) (by omega) (by omega)
  obtain ⟨y, hye⟩ : ∃ y, y = n &&& n / 2 := ⟨_, rfl⟩
  rw [← hye] at hy k1
  have HY := Lib.hid hye
  clear hye
  have HD : Hid (lsum (digs 2 (y : Nat)) = (pop 64 y : Nat)) := Lib.hid (lsum_dg 64 y)
  have hl := length_dg 2 64 ((y : Nat) : Int)
  have hp : pop 64 y ≤ 64 := (G_all y).2.2.2.2.2
  obtain ⟨p, hpe⟩ : ∃ p, p = pop 64 y := ⟨_, rfl⟩
  rw [← hpe] at hp
  have HPe := Lib.hid hpe
  clear hpe
  go_enter Tryd.func29, Tryd.ntmps29
  go_wp2_with (first | (go_at_call 43; refine (s_l02Digits ((y : Nat) : Int) 2 _ (by omega) (by omega) (by omega) (by omega)).mono ?_; rintro e w1 ⟨A1, c1, rfl, hO, hb1⟩; have HO := Lib.hid hO; have HB1 := Lib.hid hb1; clear hO hb1) | (go_at_call 42; refine (s_sum A1 _ _ _ HO.out.reads hl (dg_le 64 y)).mono ?_; rw [HD.out, ← HPe.out]; rintro e w2 ⟨rfl, rfl⟩))
  go_ret
  exact ⟨by unfold sq; rw [if_neg (by decide), if_pos rfl, ← HY.out, ← HPe.out]; rfl, HB1.out⟩
set_option maxHeartbeats 1000000 in
theorem s_at3 (n : Nat) (w : World) (hn : n ≤ 1000000000000) :
    Calls Tryd.prog 29 #[.int .i64 3, .int .i64 n] w fun e w' => e = .returned (.int .i64 (sq 3 n)) ∧ Below w.heap.size w w' := by
  by_cases h0 : 0 < n
  · have hz64 : idx n < 64 := by obtain ⟨_, _, h⟩ := idx_split 64 n h0 (by omega); exact h
    obtain ⟨z, hz⟩ : ∃ z, z = idx n := ⟨_, rfl⟩
    rw [← hz] at hz64
    have HZ := Lib.hid hz
    clear hz
    obtain ⟨y, hy⟩ : ∃ y, y = n / 2 ^ z := ⟨_, rfl⟩
    have hyn : y ≤ n := by rw [hy]; exact Nat.div_le_self _ _
    have k1 : (n : Int) / 2 ^ z = (y : Int) := by rw [hy]; simp
    have k2 : bits BinOp.and IntKind.i64 (y : Int) 3 = ((y % 4 : Nat) : Int) := by
      have h := and_i64 y 3 (by omega) (by omega)
      rwa [show y &&& 3 = y % 4 from Nat.and_two_pow_sub_one_eq_mod y 2] at h
    have HY := Lib.hid hy
    clear hy
    by_cases h3 : y % 4 = 3
    · have t1 : ((y : Int) % 4 == 3) = true := by simp; omega
      have t2 : (((y % 4 : Nat) : Int) == 3) = true := by simp; omega
      have H3 := Lib.hid h3
      clear h3
      go_enter Tryd.func29, Tryd.ntmps29
      go_wp2_with (first | (go_at_call 44; refine (s_index n _ h0 hn).mono ?_; rw [← HZ.out]; rintro e w1 ⟨rfl, rfl⟩))
      go_ret
      exact ⟨by unfold sq; rw [if_neg (by decide), if_neg (by decide), if_pos rfl, ← HZ.out, ← HY.out, if_pos ⟨h0, H3.out⟩]; rfl, Below.refl _ _⟩
    · have t1 : ((y : Int) % 4 == 3) = false := by simp; omega
      have t2 : (((y % 4 : Nat) : Int) == 3) = false := by simp; omega
      have H3 := Lib.hid h3
      clear h3
      go_enter Tryd.func29, Tryd.ntmps29
      go_wp2_with (first | (go_at_call 44; refine (s_index n _ h0 hn).mono ?_; rw [← HZ.out]; rintro e w1 ⟨rfl, rfl⟩))
      go_ret
      exact ⟨by unfold sq; rw [if_neg (by decide), if_neg (by decide), if_pos rfl, ← HZ.out, ← HY.out, if_neg (fun h => H3.out h.2)]; rfl, Below.refl _ _⟩
  · obtain rfl : n = 0 := by omega
    go_enter Tryd.func29, Tryd.ntmps29
    go_wp2_with (first | (go_at_call 44; refine (s_index n _ h0 hn).mono ?_; rw [← HZ.out]; rintro e w1 ⟨rfl, rfl⟩))
    go_ret
    exact ⟨rfl, Below.refl _ _⟩
set_option maxHeartbeats 1000000 in
theorem s_at5 (n : Nat) (w : World) (hn : n ≤ 1000000000000) :
    Calls Tryd.prog 29 #[.int .i64 5, .int .i64 n] w fun e w' => e = .returned (.int .i64 (sq 5 n)) ∧ Below w.heap.size w w' := by
  by_cases h0 : 0 < n
  · have hz64 : idx n < 64 := by obtain ⟨_, _, h⟩ := idx_split 64 n h0 (by omega); exact h
    obtain ⟨z, hz⟩ : ∃ z, z = idx n := ⟨_, rfl⟩
    rw [← hz] at hz64
    have HZ := Lib.hid hz
    clear hz
    have t0 : ((n : Int) == 0) = false := by simp; omega
    by_cases h9 : 9 ≤ z
    · go_enter Tryd.func29, Tryd.ntmps29
      go_wp2_with (first | (go_at_call 44; refine (s_index n _ h0 hn).mono ?_; rw [← HZ.out]; rintro e w1 ⟨rfl, rfl⟩))
      go_ret
      refine ⟨?_, Below.refl _ _⟩
      have e : sq 5 n = 9 := by unfold sq; rw [if_neg (by decide), if_neg (by decide), if_neg (by decide), if_neg (by decide), if_neg (by omega), ← HZ.out]; omega
      rw [e]
      first | (simp; done) | (simp; omega)
    · go_enter Tryd.func29, Tryd.ntmps29
      go_wp2_with (first | (go_at_call 44; refine (s_index n _ h0 hn).mono ?_; rw [← HZ.out]; rintro e w1 ⟨rfl, rfl⟩))
      go_ret
      refine ⟨?_, Below.refl _ _⟩
      have e : sq 5 n = z := by unfold sq; rw [if_neg (by decide), if_neg (by decide), if_neg (by decide), if_neg (by decide), if_neg (by omega), ← HZ.out]; omega
      rw [e]
      first | (simp; done) | (simp; omega)
  · obtain rfl : n = 0 := by omega
    go_enter Tryd.func29, Tryd.ntmps29
    go_wp2_with (first | (go_at_call 44; refine (s_index n _ h0 hn).mono ?_; rw [← HZ.out]; rintro e w1 ⟨rfl, rfl⟩))
    go_ret
    exact ⟨rfl, Below.refl _ _⟩
set_option maxHeartbeats 1000000 in
theorem s_at4 (n : Nat) (w : World) (hn : n ≤ 1000000000000) :
    Calls Tryd.prog 29 #[.int .i64 4, .int .i64 n] w fun e w' => e = .returned (.int .i64 (sq 4 n)) ∧ Below w.heap.size w w' := by
  go_enter Tryd.func29, Tryd.ntmps29
  go_wp2_with (first | (go_at_call 45; refine (s_blocks n _ hn).mono ?_; rintro e w1 ⟨rfl, rfl⟩))
  go_ret
  exact ⟨by rfl, Below.refl _ _⟩

theorem s_at (k n : Nat) (w : World) (h1 : 1 ≤ k) (h5 : k ≤ 5) (hn : n ≤ 1000000000000) :
    Calls Tryd.prog 29 #[.int .i64 (k : Nat), .int .i64 (n : Nat)] w fun e w' => e = .returned (.int .i64 (sq k n)) ∧ Below w.heap.size w w' :=
  match k, h1, h5 with
  | 1, _, _ => s_at1 n w hn
  | 2, _, _ => s_at2 n w hn
  | 3, _, _ => s_at3 n w hn
  | 4, _, _ => s_at4 n w hn
  | 5, _, _ => s_at5 n w hn
end Go.Proofs.YtobbbaagoiejeaaDoor
