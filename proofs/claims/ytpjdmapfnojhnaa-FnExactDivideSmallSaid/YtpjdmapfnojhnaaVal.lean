/- The number with some digits: contracts of impl.valueOf and spec.l18Value. Conditions: 2 ≤ b ≤ 16, at most 12 digits, each of at most 15 in magnitude. -/
import Derived.Test.YtpjdmapfnojhnaaInts
namespace Go.Proofs.Ytpjdmapfnojhnaa
open Go.RowKit
set_option linter.unusedVariables false

/-- The value of digits, the lowest first. -/
def val (b : Int) (xs : List Int) : Int := xs.foldr (fun d n => n * b + d) 0
theorem val_drop {b : Int} {xs : List Int} {q : Nat} (h : q < xs.length) : val b (xs.drop q) = val b (xs.drop (q + 1)) * b + xs.getD q 0 := by
  rw [List.drop_eq_getElem_cons h, List.getD_eq_getElem?_getD, List.getElem?_eq_getElem h, Option.getD_some]; rfl
theorem mul_bd16 {v b : Int} {m : Nat} (hv : v.natAbs ≤ m) (hb : b.natAbs ≤ 16) : (v * b).natAbs ≤ m * 16 := by
  rw [Int.natAbs_mul]; exact Nat.mul_le_mul hv hb
theorem val_bd {b : Int} (hb : b.natAbs ≤ 16) : ∀ (xs : List Int), (∀ x ∈ xs, x.natAbs ≤ 15) → (val b xs).natAbs ≤ 16 ^ xs.length - 1
  | [], _ => by simp [val]
  | x :: xs, h => by
    have ih := val_bd hb xs fun y hy => h y (by simp [hy])
    have h1 := mul_bd16 ih hb
    have h2 := h x (by simp)
    have h3 : (val b (x :: xs)) = val b xs * b + x := rfl
    have h4 : 0 < 16 ^ xs.length := Nat.pow_pos (by omega)
    rw [h3, List.length_cons, Nat.pow_succ]
    omega
theorem val_bd12 {b : Int} (hb : b.natAbs ≤ 16) {xs : List Int} (hl : xs.length ≤ 12) (h : ∀ x ∈ xs, x.natAbs ≤ 15) : (val b xs).natAbs ≤ 281474976710655 := by
  have h1 := val_bd hb xs h
  have h2 : 16 ^ xs.length ≤ 16 ^ 12 := Nat.pow_le_pow_right (by omega) hl
  have h3 : 16 ^ 12 = 281474976710656 := by decide
  omega
theorem getD_mem {xs : List Int} {q : Nat} (h : q < xs.length) : xs.getD q 0 ∈ xs := by
  rw [List.getD_eq_getElem?_getD, List.getElem?_eq_getElem h, Option.getD_some]; exact List.getElem_mem h

set_option maxHeartbeats 1000000 in
theorem i_valueOf (A : Option Addr) (xs : List Int) (c : Nat) (b : Int) (w : World) (hR : RI w w.heap.size A xs) (hb : 2 ≤ b) (hb2 : b ≤ 16) (hl : xs.length ≤ 12) (hd : ∀ x ∈ xs, x.natAbs ≤ 15) :
    Calls Try.prog 44 #[.slice A xs.length c, .int .i64 b] w fun e w' => e = .returned (.int .i64 (val b xs)) ∧ w = w' := by
  go_enter Try.func44, Try.ntmps44
  have HD := Lib.hid hd
  clear hd
  go_wp2
  go_loop [5, 6] (fun n i => ∃ k : Nat, k ≤ xs.length ∧ i = .int .i64 ((k : Int) - 1) ∧ n = .int .i64 (val b (xs.drop k))) (fun _ i => (intOf i + 1).toNat)
  case atStart => exact ⟨xs.length, Nat.le_refl _, rfl, by simp [val]⟩
  case round =>
    obtain ⟨k, hk, rfl, rfl⟩ := hrel
    rcases Nat.eq_zero_or_pos k with rfl | hp
    · go_wp2
      go_ret
      exact ⟨rfl, rfl⟩
    · obtain ⟨q, rfl⟩ : ∃ q, k = q + 1 := ⟨k - 1, by omega⟩
      obtain ⟨b0, off, hA, hb0, hc⟩ := hR.at_ (k := q) (by omega)
      subst hA
      have HR := Lib.hid hR
      clear hR
      obtain ⟨d, hd⟩ : ∃ d, d = xs.getD q 0 := ⟨_, rfl⟩
      obtain ⟨v, hv⟩ : ∃ v, v = val b (xs.drop (q + 1)) := ⟨_, rfl⟩
      have d1 : d.natAbs ≤ 15 := by rw [hd]; exact HD.out _ (getD_mem (by omega))
      have v1 : v.natAbs ≤ 281474976710655 := by rw [hv]; exact val_bd12 (by omega) (by simp; omega) fun x hx => HD.out x (List.mem_of_mem_drop hx)
      have p1 := mul_bd16 (b := b) v1 (by omega)
      have HV := Lib.hid ((val_drop (b := b) (xs := xs) (q := q) (by omega)).trans (by rw [← hv, ← hd]))
      have d2 : -15 ≤ d := by omega
      have d3 : d ≤ 15 := by omega
      have p2 : -4503599627370480 ≤ v * b := by omega
      have p3 : v * b ≤ 4503599627370480 := by omega
      rw [← hd] at hc
      rw [← hv]
      clear hd hv d1 v1 p1
      have e : ((q + 1 : Nat) : Int) - 1 = q := by omega
      rw [e]
      clear e
      go_wp2
      go_round
      case rel => exact ⟨q, by omega, rfl, by rw [HV.out]⟩
      case measure => simp [intOf]

set_option maxHeartbeats 1000000 in
theorem s_l18Value (A : Option Addr) (xs : List Int) (c : Nat) (b : Int) (w : World) (hR : RI w w.heap.size A xs) (hb : 2 ≤ b) (hb2 : b ≤ 16) (hl : xs.length ≤ 12) (hd : ∀ x ∈ xs, x.natAbs ≤ 15) :
    Calls Try.prog 43 #[.slice A xs.length c, .int .i64 b] w fun e w' => e = .returned (.int .i64 (val b xs)) ∧ w = w' := by
  go_enter Try.func43, Try.ntmps43
  have HD := Lib.hid hd
  clear hd
  go_wp2
  go_loop [5, 6] (fun n i => ∃ k : Nat, k ≤ xs.length ∧ i = .int .i64 ((k : Int) - 1) ∧ n = .int .i64 (val b (xs.drop k))) (fun _ i => (intOf i + 1).toNat)
  case atStart => exact ⟨xs.length, Nat.le_refl _, rfl, by simp [val]⟩
  case round =>
    obtain ⟨k, hk, rfl, rfl⟩ := hrel
    rcases Nat.eq_zero_or_pos k with rfl | hp
    · go_wp2
      go_ret
      exact ⟨rfl, rfl⟩
    · obtain ⟨q, rfl⟩ : ∃ q, k = q + 1 := ⟨k - 1, by omega⟩
      obtain ⟨b0, off, hA, hb0, hc⟩ := hR.at_ (k := q) (by omega)
      subst hA
      have HR := Lib.hid hR
      clear hR
      obtain ⟨d, hd⟩ : ∃ d, d = xs.getD q 0 := ⟨_, rfl⟩
      obtain ⟨v, hv⟩ : ∃ v, v = val b (xs.drop (q + 1)) := ⟨_, rfl⟩
      have d1 : d.natAbs ≤ 15 := by rw [hd]; exact HD.out _ (getD_mem (by omega))
      have v1 : v.natAbs ≤ 281474976710655 := by rw [hv]; exact val_bd12 (by omega) (by simp; omega) fun x hx => HD.out x (List.mem_of_mem_drop hx)
      have p1 := mul_bd16 (b := b) v1 (by omega)
      have HV := Lib.hid ((val_drop (b := b) (xs := xs) (q := q) (by omega)).trans (by rw [← hv, ← hd]))
      have d2 : -15 ≤ d := by omega
      have d3 : d ≤ 15 := by omega
      have p2 : -4503599627370480 ≤ v * b := by omega
      have p3 : v * b ≤ 4503599627370480 := by omega
      rw [← hd] at hc
      rw [← hv]
      clear hd hv d1 v1 p1
      have e : ((q + 1 : Nat) : Int) - 1 = q := by omega
      rw [e]
      clear e
      go_wp2
      go_round
      case rel => exact ⟨q, by omega, rfl, by rw [HV.out]⟩
      case measure => simp [intOf]
end Go.Proofs.Ytpjdmapfnojhnaa
