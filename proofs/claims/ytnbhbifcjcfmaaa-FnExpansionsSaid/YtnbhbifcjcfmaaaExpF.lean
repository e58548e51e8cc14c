/- The number with digits of an expansion; numberOf. Conditions: at most 9 digits. -/
import Derived.Test.YtnbhbifcjcfmaaaExpL
import Derived.Test.YtnbhbifcjcfmaaaGcd
import Derived.Test.YtnbhbifcjcfmaaaPow
import Derived.Outline
import Derived.Laws.AppendOwn
import Derived.IntWalk
namespace Go.Proofs.Ytnbhbifcjcfmaaa
open Go.RowKit
set_option linter.unusedVariables false

/-- The number with digits of which the first has the greatest place. -/
def nv (b : Int) (xs : List Int) : Int := xs.foldl (fun n d => n * b + d) 0
theorem nv_take {b : Int} {xs : List Int} {k : Nat} (h : k < xs.length) : nv b (xs.take (k + 1)) = nv b (xs.take k) * b + xs.getD k 0 := by
  unfold nv
  rw [List.take_succ_eq_append_getElem h, List.foldl_append]
  simp [h]
theorem nv_acc {b : Int} (hb : 2 ≤ b) : ∀ (xs : List Int) (n B : Int), (∀ x ∈ xs, 0 ≤ x ∧ x ≤ b - 1) → 0 ≤ n → n ≤ B - 1 → 0 ≤ xs.foldl (fun n d => n * b + d) n ∧ xs.foldl (fun n d => n * b + d) n ≤ B * b ^ xs.length - 1
  | [], n, B, _, h0, h1 => by simp; omega
  | x :: xs, n, B, h, h0, h1 => by
    obtain ⟨x1, x2⟩ := h x (by simp)
    have m0 : 0 ≤ n * b := Int.mul_nonneg h0 (by omega)
    have m1 : n * b ≤ (B - 1) * b := Int.mul_le_mul_of_nonneg_right h1 (by omega)
    rw [Int.sub_mul, Int.one_mul] at m1
    have ih := nv_acc hb xs (n * b + x) (B * b) (fun y hy => h y (by simp [hy])) (by omega) (by omega)
    rw [List.foldl_cons, List.length_cons, Int.pow_succ, Int.mul_comm (b ^ xs.length) b, ← Int.mul_assoc]
    exact ih
theorem nv_bd {b : Int} (hb : 2 ≤ b) {xs : List Int} (h : ∀ x ∈ xs, 0 ≤ x ∧ x ≤ b - 1) : 0 ≤ nv b xs ∧ nv b xs ≤ b ^ xs.length - 1 := by
  have := nv_acc hb xs 0 1 h (by omega) (by omega)
  rw [Int.one_mul] at this
  exact this
theorem pow16 {b : Int} (h1 : 2 ≤ b) (h2 : b ≤ 16) {j : Nat} (hj : j ≤ 9) : 1 ≤ b ^ j ∧ b ^ j ≤ 68719476736 := by
  obtain ⟨q, rfl⟩ := Int.eq_ofNat_of_zero_le (show 0 ≤ b by omega)
  have a : q ^ j ≤ 16 ^ 9 := Nat.le_trans (Nat.pow_le_pow_left (by omega) j) (Nat.pow_le_pow_right (by omega) hj)
  have c : 0 < q ^ j := Nat.pow_pos (by omega)
  have d : (16 : Nat) ^ 9 = 68719476736 := by decide
  rw [← Int.natCast_pow]
  omega
theorem pow_ge {b : Int} (h1 : 2 ≤ b) {j : Nat} (hj : 0 < j) : 2 ≤ b ^ j := by
  obtain ⟨k, rfl⟩ : ∃ k, j = k + 1 := ⟨j - 1, by omega⟩
  have h : 0 < b ^ k := Int.pow_pos (by omega)
  rw [Int.pow_succ]
  have : 1 * b ≤ b ^ k * b := Int.mul_le_mul_of_nonneg_right (by omega) (by omega)
  omega
def fTop (b : Int) (xs ys : List Int) : Int := if ys.length = 0 then nv b xs else nv b xs * (b ^ ys.length - 1) + nv b ys
def fBot (b : Int) (xs ys : List Int) : Int := if ys.length = 0 then b ^ xs.length else b ^ xs.length * (b ^ ys.length - 1)
noncomputable def feA (b : Int) (xs ys : List Int) : Int := if lpB b xs ys then fTop b xs ys / (Int.gcd (fTop b xs ys) (fBot b xs ys) : Int) else 0
noncomputable def feB (b : Int) (xs ys : List Int) : Int := if lpB b xs ys then fBot b xs ys / (Int.gcd (fTop b xs ys) (fBot b xs ys) : Int) else 0
theorem LP.dig {b : Int} {xs ys : List Int} (h : LP b xs ys) : (∀ x ∈ xs, 0 ≤ x ∧ x ≤ b - 1) ∧ (∀ x ∈ ys, 0 ≤ x ∧ x ≤ b - 1) := ⟨allB_iff.1 h.2.2.1, allB_iff.1 h.2.2.2⟩
theorem prod_bd {a c : Int} {X Y : Int} (h0 : 0 ≤ a) (h1 : a ≤ X) (h2 : 0 ≤ c) (h3 : c ≤ Y) (hx : 0 ≤ X) : 0 ≤ a * c ∧ a * c ≤ X * Y := ⟨Int.mul_nonneg h0 h2, Int.mul_le_mul h1 h3 h2 hx⟩
/-- What the numbers of an expansion are bounded by. -/
theorem LP.bds {b : Int} {xs ys : List Int} (h : LP b xs ys) (hy : 0 < ys.length) :
    0 ≤ nv b xs * (b ^ ys.length - 1) ∧ nv b xs * (b ^ ys.length - 1) ≤ 68719476736 ∧ 1 ≤ b ^ xs.length * (b ^ ys.length - 1) ∧ b ^ xs.length * (b ^ ys.length - 1) ≤ 68719476736 := by
  obtain ⟨b1, b2⟩ := baseB_bd h.1
  obtain ⟨d1, d2⟩ := h.dig
  obtain ⟨n0, n1⟩ := nv_bd b1 d1
  have p0 := pow_ge b1 hy
  have p1 := pow16 b1 b2 h.2.1
  have px := pow16 b1 b2 (show xs.length ≤ 9 by have := h.2.1; omega)
  rw [Int.pow_add] at p1
  obtain ⟨q0, q1⟩ := prod_bd (X := b ^ xs.length) (Y := b ^ ys.length) n0 (by omega) (show 0 ≤ b ^ ys.length - 1 by omega) (by omega) (by omega)
  obtain ⟨r0, r1⟩ := prod_bd (X := b ^ xs.length) (Y := b ^ ys.length) (show 0 ≤ b ^ xs.length by omega) (by omega) (show 0 ≤ b ^ ys.length - 1 by omega) (by omega) (by omega)
  have r2 : 1 * 1 ≤ b ^ xs.length * (b ^ ys.length - 1) := Int.mul_le_mul (by omega) (by omega) (by omega) (by omega)
  exact ⟨q0, by omega, by omega, by omega⟩
theorem LP.fin {b : Int} {xs ys : List Int} (h : LP b xs ys) : 0 ≤ fTop b xs ys ∧ fTop b xs ys ≤ 137438953472 ∧ 1 ≤ fBot b xs ys ∧ fBot b xs ys ≤ 68719476736 := by
  obtain ⟨b1, b2⟩ := baseB_bd h.1
  obtain ⟨d1, d2⟩ := h.dig
  obtain ⟨n0, n1⟩ := nv_bd b1 d1
  obtain ⟨m0, m1⟩ := nv_bd b1 d2
  have px := pow16 b1 b2 (show xs.length ≤ 9 by have := h.2.1; omega)
  have py := pow16 b1 b2 (show ys.length ≤ 9 by have := h.2.1; omega)
  unfold fTop fBot
  by_cases hy : ys.length = 0
  · rw [if_pos hy, if_pos hy]; omega
  · rw [if_neg hy, if_neg hy]
    have := h.bds (by omega)
    omega
theorem gcd_ge {a c : Int} (h : 1 ≤ c) : (1 : Int) ≤ Int.gcd a c := by
  have : 0 < Int.gcd a c := Int.gcd_pos_of_ne_zero_right _ (by omega)
  omega
theorem gcd_le {a c : Int} (h : 1 ≤ c) : (Int.gcd a c : Int) ≤ c := Int.le_of_dvd (by omega) (Int.gcd_dvd_right ..)

theorem getD_memL {xs : List Int} {q : Nat} (h : q < xs.length) : xs.getD q 0 ∈ xs := by
  rw [List.getD_eq_getElem?_getD, List.getElem?_eq_getElem h, Option.getD_some]; exact List.getElem_mem h

set_option maxHeartbeats 1000000 in
theorem i_num (A : Option Addr) (xs : List Int) (c : Nat) (b : Int) (w : World) (hR : RI w w.heap.size A xs) (b1 : 2 ≤ b) (b2 : b ≤ 16) (hl : xs.length ≤ 9) (hd : ∀ x ∈ xs, 0 ≤ x ∧ x ≤ b - 1) :
    Calls Try.prog 44 #[.slice A xs.length c, .int .i64 b] w fun e w' => e = .returned (.int .i64 (nv b xs)) ∧ w = w' := by
  have HD := Lib.hid hd
  clear hd
  go_enter Try.func44, Try.ntmps44
  go_wp2
  go_loop [5, 10] (fun n i => ∃ k : Nat, k ≤ xs.length ∧ i = .int .i64 k ∧ n = .int .i64 (nv b (xs.take k))) (fun _ i => xs.length - (intOf i).toNat)
  case atStart => exact ⟨0, Nat.zero_le _, rfl, rfl⟩
  case round =>
    obtain ⟨k, hk, rfl, rfl⟩ := hrel
    by_cases hlt : k < xs.length
    · obtain ⟨b0, off, hA, hb0, hc⟩ := RI.at_ hR hlt
      obtain ⟨d, hdd⟩ : ∃ d, d = xs.getD k 0 := ⟨_, rfl⟩
      rw [← hdd] at hc
      obtain ⟨d0, d1⟩ := HD.out d (by rw [hdd]; exact getD_memL hlt)
      have HST := Lib.hid (show nv b (xs.take (k + 1)) = nv b (xs.take k) * b + d by rw [nv_take hlt, ← hdd])
      obtain ⟨n0, n1⟩ := nv_bd b1 (xs := xs.take k) (fun x hx => HD.out x (List.mem_of_mem_take hx))
      have pl := pow16 b1 b2 (show (xs.take k).length ≤ 9 by rw [List.length_take]; omega)
      obtain ⟨v, hv⟩ : ∃ v, v = nv b (xs.take k) := ⟨_, rfl⟩
      rw [← hv] at n0 n1 HST
      rw [← hv]
      have m0 : 0 ≤ v * b := Int.mul_nonneg n0 (by omega)
      have m1 : v * b ≤ 68719476736 * 16 := Int.mul_le_mul (by omega) (by omega) (by omega) (by omega)
      have HRR := Lib.hid hR
      first | subst hA | (injection hA with hA; subst hA)
      clear hdd hv n1 pl
      go_wp2
      go_round
      case rel => exact ⟨k + 1, by omega, by go_num, by rw [HST.out]⟩
      case measure => simp [intOf]; omega
    · obtain rfl : k = xs.length := by omega
      go_wp2
      go_ret
      exact ⟨rfl, rfl⟩
end Go.Proofs.Ytnbhbifcjcfmaaa
