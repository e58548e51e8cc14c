/- Contracts of isSmallPrime and l15Prime. Conditions: none. -/
import Derived.Test.YtjdfpodmjpkfpaaInts
namespace Go.Proofs.Ytjdfpodmjpkfpaa
open Go.RowKit
set_option linter.unusedVariables false

/-- The primes of the chapter. -/
def PL : List Int := [2, 3, 5, 7, 11, 13]
def primeB (p : Int) : Bool := decide (p ∈ PL)
theorem primeB_iff {p : Int} : primeB p = true ↔ (p = 2 ∨ p = 3 ∨ p = 5 ∨ p = 7 ∨ p = 11 ∨ p = 13) := by
  simp [primeB, PL]
theorem primeB_bd {p : Int} (h : primeB p = true) : 2 ≤ p ∧ p ≤ 13 := by
  rw [primeB_iff] at h; omega

theorem s_prime (p : Int) (w : World) : Calls Try.prog 42 #[.int .i64 p] w fun e w' => e = .returned (.bool (primeB p)) ∧ w = w' := by
  have HP : Hid (primeB p = (decide (p = 2) || decide (p = 3) || decide (p = 5) || decide (p = 7) || decide (p = 11) || decide (p = 13))) := by
    unfold Hid
    rw [Bool.eq_iff_iff, primeB_iff]
    simp [or_assoc]
  go_enter Try.func42, Try.ntmps42
  go_wp2
  all_goals (go_ret; refine ⟨?_, rfl⟩; rw [HP.out])
  all_goals simp_all

theorem i_prime (p : Int) (w : World) : Calls Try.prog 44 #[.int .i64 p] w fun e w' => e = .returned (.bool (primeB p)) ∧ Below w.heap.size w w' := by
  have hcell : ∀ k, k < 6 → (w.alloc (.cells #[.int .i64 2, .int .i64 3, .int .i64 5, .int .i64 7, .int .i64 11, .int .i64 13] 3)).cell? ⟨w.heap.size, k, none⟩ = some (.int .i64 (PL.getD k 0)) := by
    intro k hk
    rw [World.cell?_alloc_new]
    match k, hk with
    | 0, _ => rfl
    | 1, _ => rfl
    | 2, _ => rfl
    | 3, _ => rfl
    | 4, _ => rfl
    | 5, _ => rfl
  have HC := Lib.hid hcell
  clear hcell
  go_enter Try.func44, Try.ntmps44
  go_wp2
  go_loop [8] (fun i => ∃ k : Nat, k ≤ 6 ∧ i = .int .i64 k ∧ Hid (∀ j, j < k → PL.getD j 0 ≠ p)) (fun i => 6 - (intOf i).toNat)
  case atStart => exact ⟨0, by omega, rfl, fun j hj => by omega⟩
  case round =>
    obtain ⟨k, hk, rfl, hall⟩ := hrel
    by_cases hlt : k < 6
    · have hc := HC.out k hlt
      obtain ⟨q, hq⟩ : ∃ q, q = PL.getD k 0 := ⟨_, rfl⟩
      rw [← hq] at hc
      have HQ := Lib.hid hq
      clear hq
      by_cases he : p = q
      · have HP : Hid (primeB p = true) := by
          unfold Hid primeB
          rw [decide_eq_true_eq, he, HQ.out, List.getD_eq_getElem?_getD, List.getElem?_eq_getElem (by exact hlt), Option.getD_some]
          exact List.getElem_mem _
        have hb : (p == q) = true := by simp [he]
        have hb2 : (q == p) = true := by simp [he]
        clear he
        go_wp2
        go_ret
        exact ⟨by rw [HP.out]; rfl, b_alloc (Below.refl _ _) _⟩
      · have hb : (p == q) = false := by simp [he]
        have hb2 : (q == p) = false := by simp [Ne.symm he]
        have HE := Lib.hid he
        clear he
        go_wp2
        go_round
        case rel => exact ⟨k + 1, by omega, by go_num, fun j hj => by
          by_cases e : j = k
          · subst e; rw [← HQ.out]; exact fun h => HE.out h.symm
          · exact hall.out j (by omega)⟩
        case measure => simp [intOf]; omega
    · obtain rfl : k = 6 := by omega
      have HP : Hid (primeB p = false) := by
        unfold Hid primeB
        rw [decide_eq_false_iff_not]
        intro hm
        obtain ⟨j, hj, he⟩ := List.mem_iff_getElem.1 hm
        refine hall.out j (by exact hj) ?_
        rw [List.getD_eq_getElem?_getD, List.getElem?_eq_getElem hj, Option.getD_some]
        exact he
      go_wp2
      go_ret
      exact ⟨by rw [HP.out]; rfl, b_alloc (Below.refl _ _) _⟩
end Go.Proofs.Ytjdfpodmjpkfpaa
