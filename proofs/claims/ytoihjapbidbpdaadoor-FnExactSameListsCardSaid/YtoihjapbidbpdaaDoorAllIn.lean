/- Contract of impl.allWithin: whether all numbers of a slice lie in a range. Conditions: lengths of at most 2^32. -/
import Derived.Test.YtoihjapbidbpdaaDoorBase
import Derived.Test.YtoihjapbidbpdaaDoorRows
namespace Go.Proofs.YtoihjapbidbpdaaDoor
open Go.RowKit
set_option linter.unusedVariables false

/-- All numbers of the list lie in the range. -/
def allB (lo hi : Int) (xs : List Int) : Bool := xs.all fun x => decide (lo ≤ x) && decide (x ≤ hi)

theorem allB_iff {lo hi : Int} {xs : List Int} : allB lo hi xs = true ↔ ∀ x ∈ xs, lo ≤ x ∧ x ≤ hi := by
  simp [allB, List.all_eq_true]
theorem allB_of {lo hi : Int} {xs : List Int} (h : ∀ j, j < xs.length → lo ≤ xs.getD j 0 ∧ xs.getD j 0 ≤ hi) : allB lo hi xs = true := by
  rw [allB_iff]
  intro x hx
  obtain ⟨j, hj, rfl⟩ := List.mem_iff_getElem.1 hx
  have := h j hj
  rwa [List.getD_eq_getElem?_getD, List.getElem?_eq_getElem hj, Option.getD_some] at this
theorem allB_not {lo hi : Int} {xs : List Int} {j : Nat} (hj : j < xs.length) (h : ¬ (lo ≤ xs.getD j 0 ∧ xs.getD j 0 ≤ hi)) : allB lo hi xs = false := by
  rw [Bool.eq_false_iff]
  intro hh
  rw [List.getD_eq_getElem?_getD, List.getElem?_eq_getElem hj, Option.getD_some] at h
  exact h (allB_iff.1 hh _ (List.getElem_mem hj))

set_option maxHeartbeats 1000000 in
theorem allWithin_any (A : Option Addr) (xs : List Int) (c : Nat) (lo hi : Int) (w : World) (hR : RI w w.heap.size A xs) (hl : xs.length ≤ 4294967296) :
    Calls Tryd.prog 34 #[.slice A xs.length c, .int .i64 lo, .int .i64 hi] w fun e w' => e = .returned (.bool (allB lo hi xs)) ∧ Below w.heap.size w w' := by
  have hmf : ∀ (fn : Fn) (first cap : Array Value) (w : World), (Instr.makeFunc fn first cap).run Tryd.prog w = .ok (.func fn first cap) w := fun _ _ _ _ => rfl
  go_enter Tryd.func34, Tryd.ntmps34
  go_wp2
  go_loopw [8] (fun i wr => ∃ k : Nat, k ≤ xs.length ∧ i = .int .i64 k ∧ (∀ j, j < k → lo ≤ xs.getD j 0 ∧ xs.getD j 0 ≤ hi) ∧ wr.cell? ⟨w.heap.size, 0, none⟩ = some (.int .i64 lo) ∧ wr.cell? ⟨w.heap.size + 1, 0, none⟩ = some (.int .i64 hi) ∧ Below w.heap.size w wr) (fun i _ => xs.length - (intOf i).toNat)
  case atStart => exact ⟨0, Nat.zero_le _, rfl, fun j hj => by omega, by simp [go_sem, World.cell?_alloc_past], by simp [go_sem], b_alloc (b_alloc (Below.refl _ _) _) _⟩
  case round =>
    obtain ⟨k, hk, rfl, hall, hlo, hhi, hW⟩ := hrel
    have HA := Lib.hid hall
    have HW := Lib.hid hW
    clear hall hW
    by_cases hlt : k < xs.length
    · obtain ⟨b, off, hA, hb, hc⟩ := (hR.below HW.out).at_ hlt
      subst hA
      have HR := Lib.hid hR
      clear hR
      obtain ⟨x, hx⟩ : ∃ x, x = xs.getD k 0 := ⟨_, rfl⟩
      rw [← hx] at hc
      have HX := Lib.hid hx
      clear hx
      by_cases h1 : lo ≤ x
      · by_cases h2 : x ≤ hi
        · go_wp2
          go_roundw
          case rel => exact ⟨k + 1, by omega, by go_num, fun j hj => by
            by_cases e : j = k
            · subst e; rw [← HX.out]; exact ⟨h1, h2⟩
            · exact HA.out j (by omega), hlo, hhi, HW.out⟩
          case measure => simp [intOf]; omega
        · have HF := Lib.hid (allB_not (lo := lo) (hi := hi) hlt (by rw [← HX.out]; omega))
          go_wp2
          go_ret
          exact ⟨by rw [HF.out]; rfl, HW.out⟩
      · have HF := Lib.hid (allB_not (lo := lo) (hi := hi) hlt (by rw [← HX.out]; omega))
        go_wp2
        go_ret
        exact ⟨by rw [HF.out]; rfl, HW.out⟩
    · have HF := Lib.hid (allB_of (lo := lo) (hi := hi) (xs := xs) fun j hj => HA.out j (by omega))
      go_wp2
      go_ret
      exact ⟨by rw [HF.out]; rfl, HW.out⟩
end Go.Proofs.YtoihjapbidbpdaaDoor
