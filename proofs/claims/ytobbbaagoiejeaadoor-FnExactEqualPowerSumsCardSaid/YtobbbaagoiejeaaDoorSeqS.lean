/- Contracts of l12Index, l19Blocks, l02Sum and l19At. Conditions: numbers of at most 10^12. -/
import Derived.Test.YtobbbaagoiejeaaDoorBits
import Derived.Test.YtobbbaagoiejeaaDoorDigsF
import Derived.Test.YtobbbaagoiejeaaDoorIn
namespace Go.Proofs.YtobbbaagoiejeaaDoor
open Go.RowKit
set_option linter.unusedVariables false

set_option maxHeartbeats 1000000 in
theorem s_index (n : Nat) (w : World) (h0 : 0 < n) (hn : n ≤ 1000000000000) :
    Calls Tryd.prog 44 #[.int .i64 n] w fun e w' => e = .returned (.int .i64 (idx n)) ∧ w = w' := by
  have hb : idx n < 64 := by obtain ⟨_, _, h⟩ := idx_split 64 n h0 (by omega); exact h
  go_enter Tryd.func44, Tryd.ntmps44
  go_wp2
  go_loop [0, 3] (fun v k => ∃ m q : Nat, v = .int .i64 m ∧ k = .int .i64 q ∧ 0 < m ∧ m ≤ n ∧ q + idx m = idx n) (fun v _ => (intOf v).toNat)
  case atStart => exact ⟨n, 0, rfl, rfl, h0, Nat.le_refl _, by omega⟩
  case round =>
    obtain ⟨m, q, rfl, rfl, hm, hmn, hq⟩ := hrel
    have HQ := Lib.hid hq
    have hq64 : q < 64 := by omega
    clear hq
    by_cases h2 : m % 2 = 0
    · have t1 : ((m : Int) % 2 == 0) = true := by simp; omega
      go_wp2
      go_round
      case rel => exact ⟨m / 2, q + 1, by go_num, by go_num, by omega, by omega, by have := HQ.out; rw [idx_even hm h2] at this; omega⟩
      case measure => simp [intOf]; omega
    · have t1 : ((m : Int) % 2 == 0) = false := by simp; omega
      have HE := Lib.hid (idx_odd (n := m) (by omega))
      go_wp2
      go_ret
      exact ⟨by have h1 := HQ.out; have h2 := HE.out; rw [h2] at h1; rw [← h1]; rfl, rfl⟩

set_option maxHeartbeats 1000000 in
theorem s_blocks (n : Nat) (w : World) (hn : n ≤ 1000000000000) :
    Calls Tryd.prog 45 #[.int .i64 n] w fun e w' => e = .returned (.int .i64 (blk n 0)) ∧ w = w' := by
  go_enter Tryd.func45, Tryd.ntmps45
  go_wp2
  go_loop [0, 3] (fun v k => ∃ m q : Nat, v = .int .i64 m ∧ k = .int .i64 q ∧ q + m ≤ n ∧ Hid (blk m q = blk n 0)) (fun v _ => (intOf v).toNat)
  case atStart => exact ⟨n, 0, rfl, rfl, by omega, Lib.hid rfl⟩
  case round =>
    obtain ⟨m, q, rfl, rfl, hq, HQ⟩ := hrel
    by_cases h0 : 0 < m
    · by_cases h2 : m % 2 = 0
      · have t1 : ((m : Int) % 2 == 0) = true := by simp; omega
        go_wp2
        go_round
        case rel => exact ⟨m / 2, q + 1, by go_num, by go_num, by omega, Lib.hid (by have := HQ.out; rw [blk_even q h0 h2] at this; exact this)⟩
        case measure => simp [intOf]; omega
      · have t1 : ((m : Int) % 2 == 0) = false := by simp; omega
        by_cases h3 : q % 2 = 1
        · have t2 : ((q : Int) % 2 == 1) = true := by simp; omega
          have HE := Lib.hid (blk_stop (n := m) (r := q) (by omega) h3)
          go_wp2
          go_ret
          exact ⟨by rw [← HQ.out, HE.out]; rfl, rfl⟩
        · have t2 : ((q : Int) % 2 == 1) = false := by simp; omega
          go_wp2
          go_round
          case rel => exact ⟨m / 2, 0, by go_num, by go_num, by omega, Lib.hid (by have := HQ.out; rw [blk_odd (by omega) (by omega)] at this; exact this)⟩
          case measure => simp [intOf]; omega
    · obtain rfl : m = 0 := by omega
      go_wp2
      go_ret
      exact ⟨by rw [← HQ.out, blk_zero]; rfl, rfl⟩

def lsum : List Int → Int
  | [] => 0
  | x :: l => x + lsum l
theorem lsum_take : ∀ (l : List Int) (k : Nat), k < l.length → lsum (l.take (k + 1)) = lsum (l.take k) + l.getD k 0
  | [], k, h => by simp at h
  | x :: l, 0, _ => by simp [lsum]
  | x :: l, k + 1, h => by
    have := lsum_take l k (by simpa using h)
    simp only [List.take_succ_cons, lsum, this, List.getD_cons_succ]
    omega
theorem dg_le : ∀ (f : Nat) (n : Nat), ∀ x ∈ dg 2 f (n : Int), 0 ≤ x ∧ x ≤ 1
  | 0, n => by simp [dg]
  | f + 1, n => by
    intro x hx
    unfold dg at hx
    split at hx
    · rcases List.mem_cons.1 hx with h | h
      · omega
      · exact dg_le f (n / 2) x (by simpa using h)
    · simp at hx
theorem pop_zero : ∀ f, pop f 0 = 0
  | 0 => rfl
  | f + 1 => by simp [pop, pop_zero f]
theorem lsum_dg : ∀ (f : Nat) (n : Nat), lsum (dg 2 f (n : Int)) = (pop f n : Int)
  | 0, n => by simp [dg, lsum, pop]
  | f + 1, n => by
    have h := lsum_dg f (n / 2)
    by_cases h0 : 0 < (n : Int)
    · rw [dg_pos h0, lsum, pop]
      have e : ((n : Int) / 2) = ((n / 2 : Nat) : Int) := by simp
      rw [e, h]
      omega
    · obtain rfl : n = 0 := by omega
      rw [show ((0 : Nat) : Int) = 0 from rfl, dg_zero, pop_zero]
      rfl
theorem lsum_bd : ∀ (l : List Int), (∀ x ∈ l, 0 ≤ x ∧ x ≤ 1) → 0 ≤ lsum l ∧ lsum l ≤ l.length
  | [], _ => by simp [lsum]
  | x :: l, h => by
    have h1 := h x (by simp)
    have h2 := lsum_bd l fun y hy => h y (by simp [hy])
    simp only [lsum, List.length_cons]
    omega
set_option maxHeartbeats 1000000 in
theorem s_sum (A : Option Addr) (xs : List Int) (c : Nat) (w : World) (hR : RI w w.heap.size A xs) (hl : xs.length ≤ 64) (hb : ∀ x ∈ xs, 0 ≤ x ∧ x ≤ 1) :
    Calls Tryd.prog 42 #[.slice A xs.length c] w fun e w' => e = .returned (.int .i64 (lsum xs)) ∧ w = w' := by
  have HB := Lib.hid hb
  clear hb
  go_enter Tryd.func42, Tryd.ntmps42
  go_wp2
  go_loop [8, 3] (fun i v => ∃ k : Nat, k ≤ xs.length ∧ i = .int .i64 k ∧ v = .int .i64 (lsum (xs.take k))) (fun i _ => xs.length - (intOf i).toNat)
  case atStart => exact ⟨0, Nat.zero_le _, rfl, by simp [lsum]⟩
  case round =>
    obtain ⟨k, hk, rfl, rfl⟩ := hrel
    by_cases hlt : k < xs.length
    · obtain ⟨b, off, hA, hb, hc⟩ := hR.at_ hlt
      subst hA
      have HS := Lib.hid (lsum_take xs k hlt)
      obtain ⟨z0, z1⟩ := lsum_bd (xs.take k) fun x hx => HB.out x (List.mem_of_mem_take hx)
      have hx2 := HB.out (xs.getD k 0) (by rw [List.getD_eq_getElem?_getD, List.getElem?_eq_getElem hlt]; exact List.getElem_mem hlt)
      have hl2 : (xs.take k).length ≤ 64 := by simp; omega
      obtain ⟨x, hx⟩ : ∃ x, x = xs.getD k 0 := ⟨_, rfl⟩
      obtain ⟨z, hz⟩ : ∃ z, z = lsum (xs.take k) := ⟨_, rfl⟩
      rw [← hz] at z0 z1
      rw [← hx] at hc hx2
      rw [← hz]
      obtain ⟨x0, x1⟩ := hx2
      have HX := Lib.hid hx
      have HZ := Lib.hid hz
      have z2 : z ≤ 64 := by omega
      clear hR hx hz z1 hl2
      go_wp2
      go_round
      case rel => exact ⟨k + 1, by omega, by go_num, by rw [HS.out, ← HX.out, ← HZ.out]⟩
      case measure => simp [intOf]; omega
    · obtain rfl : k = xs.length := by omega
      go_wp2
      go_ret
      exact ⟨rfl, rfl⟩
end Go.Proofs.YtobbbaagoiejeaaDoor
