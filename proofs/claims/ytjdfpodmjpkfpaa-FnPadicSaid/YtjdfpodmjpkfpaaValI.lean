/- Contract of impl.valueOf: the number with some digits. Conditions: 2 ≤ b ≤ 16, at most 12 digits, each of at most 15 in magnitude. -/
import Derived.Test.YtjdfpodmjpkfpaaValW
namespace Go.Proofs.Ytjdfpodmjpkfpaa
open Go.RowKit
set_option linter.unusedVariables false

set_option maxHeartbeats 1000000 in
theorem i_valueOf (A : Option Addr) (xs : List Int) (c : Nat) (b : Int) (w : World) (hR : RI w w.heap.size A xs) (hb : 2 ≤ b) (hb2 : b ≤ 16) (hl : xs.length ≤ 12) (hd : ∀ x ∈ xs, x.natAbs ≤ 15) :
    Calls Try.prog 54 #[.slice A xs.length c, .int .i64 b] w fun e w' => e = .returned (.int .i64 (val b xs)) ∧ w = w' := by
  go_enter Try.func54, Try.ntmps54
  have HD := Lib.hid hd
  clear hd
  go_wp2
  go_loop [5, 6] (fun n i => ∃ k : Nat, k ≤ xs.length ∧ i = .int .i64 ((k : Int) - 1) ∧ n = .int .i64 (val b (xs.drop k))) (fun _ i => (intOf i + 1).toNat)
  case atStart => exact ⟨xs.length, Nat.le_refl _, rfl, by simp [val]⟩
  case round =>
    obtain ⟨k, hk, rfl, rfl⟩ := hrel
    rcases Nat.eq_zero_or_pos k with rfl | hp
    · go_wp2
      go_ret
      exact ⟨rfl, rfl⟩
    · obtain ⟨q, rfl⟩ : ∃ q, k = q + 1 := ⟨k - 1, by omega⟩
      obtain ⟨b0, off, hA, hb0, hc⟩ := hR.at_ (k := q) (by omega)
      subst hA
      have HR := Lib.hid hR
      clear hR
      obtain ⟨d, hd⟩ : ∃ d, d = xs.getD q 0 := ⟨_, rfl⟩
      obtain ⟨v, hv⟩ : ∃ v, v = val b (xs.drop (q + 1)) := ⟨_, rfl⟩
      have d1 : d.natAbs ≤ 15 := by rw [hd]; exact HD.out _ (getD_mem (by omega))
      have v1 : v.natAbs ≤ 281474976710655 := by rw [hv]; exact val_bd12 (by omega) (by simp; omega) fun x hx => HD.out x (List.mem_of_mem_drop hx)
      have p1 := mul_bd16 (b := b) v1 (by omega)
      have HV := Lib.hid ((val_drop (b := b) (xs := xs) (q := q) (by omega)).trans (by rw [← hv, ← hd]))
      have d2 : -15 ≤ d := by omega
      have d3 : d ≤ 15 := by omega
      have p2 : -4503599627370480 ≤ v * b := by omega
      have p3 : v * b ≤ 4503599627370480 := by omega
      rw [← hd] at hc
      rw [← hv]
      clear hd hv d1 v1 p1
      have e : ((q + 1 : Nat) : Int) - 1 = q := by omega
      rw [e]
      clear e
      go_wp2
      go_round
      case rel => exact ⟨q, by omega, rfl, by rw [HV.out]⟩
      case measure => simp [intOf]

end Go.Proofs.Ytjdfpodmjpkfpaa
