/- Plain words of QuaterDigits: zeros at the end, the two lists. Conditions: none. -/
import Derived.Test.YthblbmihpgkanaaDoorTrimS
import Derived.Test.YthblbmihpgkanaaDoorGaussDM
import Derived.Test.YthblbmihpgkanaaDoorMod
import Derived.Test.YthblbmihpgkanaaDoorGauss
namespace Go.Proofs.YthblbmihpgkanaaDoor
open Go.RowKit
set_option linter.unusedVariables false

theorem trimN_cons (x : Int) (l : List Int) : ∀ q, trimN (x :: l) (q + 1) = if trimN l q = 0 then (if x = 0 then 0 else 1) else trimN l q + 1
  | 0 => by simp [trimN]
  | q + 1 => by
    have ih := trimN_cons x l q
    by_cases h : l.getD q 0 = 0
    · rw [trimN_zero (q := q + 1) (by simpa using h), ih, trimN_zero h]
    · rw [trimN_stop (q := q + 1) (by simpa using h), trimN_stop h, if_neg (by omega)]
theorem trimL_tr : ∀ l : List Int, trimL l = tr l
  | [] => rfl
  | x :: l => by
    have ih := trimL_tr l
    unfold trimL at ih ⊢
    rw [List.length_cons, trimN_cons]
    by_cases h : trimN l l.length = 0
    · rw [if_pos h]
      rw [h, List.take_zero] at ih
      by_cases hx : x = 0
      · simp [tr, ← ih, hx]
      · simp [tr, ← ih, hx]
    · rw [if_neg h, List.take_succ_cons, ih, tr, if_neg]
      intro hh
      rw [hh.1] at ih
      have hl := congrArg List.length ih
      rw [List.length_take] at hl
      have := trimN_le l l.length
      simp only [List.length_nil] at hl
      omega
/-- Arguments of QuaterDigits. -/
def QP (x y : Int) : Prop := gok x y ∧ y % 2 = 0
noncomputable def qB (x y : Int) : Bool := @decide (QP x y) (Classical.propDecidable _)
theorem qB_t {x y : Int} (h : QP x y) : qB x y = true := by unfold qB; exact @decide_eq_true _ (Classical.propDecidable _) h
theorem qB_f {x y : Int} (h : ¬ QP x y) : qB x y = false := by unfold qB; exact @decide_eq_false _ (Classical.propDecidable _) h
noncomputable def qdR (x y : Int) : List Int := if qB x y then qdL x y else []
theorem length_qdR (x y : Int) : (qdR x y).length ≤ 500000 := by
  unfold qdR; split
  · exact length_qdL x y
  · simp
theorem tmod2 {y : Int} : y.tmod 2 = 0 ↔ y % 2 = 0 := by rw [← Int.dvd_iff_tmod_eq_zero, ← Int.dvd_iff_emod_eq_zero]
theorem tmod4 (n : Int) : (n.tmod 4 < 0 → n.tmod 4 + 4 = n % 4) ∧ (0 ≤ n.tmod 4 → n.tmod 4 = n % 4) ∧ -4 < n.tmod 4 ∧ n.tmod 4 < 4 := by
  have h1 := Int.mul_tdiv_add_tmod n 4
  obtain ⟨h2, h3⟩ := tmod_bd n (show (0 : Int) < 4 by omega)
  omega
theorem ngS_tdiv (n : Int) : (n % 4 - n).tdiv 4 = ngS n := by
  rw [Int.tdiv_eq_ediv_of_dvd (Int.dvd_of_emod_eq_zero (by omega))]; unfold ngS; omega
theorem qds_gk {k : Nat} {x y : Int} (hk : 0 < k) (h : ¬ (x = 0 ∧ y = 0)) : qds k x y = x % 4 :: qds (k - 1) (y.tdiv 2) (qdY x) := by
  obtain ⟨k, rfl⟩ : ∃ q, k = q + 1 := ⟨k - 1, by omega⟩
  exact qds_step h
theorem ngs_gk {k : Nat} {n : Int} (hk : 0 < k) (h : n ≠ 0) : ngs k n = n % 4 :: ngs (k - 1) (ngS n) := by
  obtain ⟨k, rfl⟩ : ∃ q, k = q + 1 := ⟨k - 1, by omega⟩
  exact ngs_step h
theorem qua_all {x y : Int} (h : QP x y) : trimL (zl (ngs 300000 x) (ngs 300000 (y.tdiv 2))) = qdL x y := by
  obtain ⟨⟨h1, h2, h3, h4⟩, h5⟩ := h
  have e : y.tdiv 2 = y / 2 := tdiv2 h5
  rw [trimL_tr, e, zl_trim 300000 x (y / 2) 500000 (by unfold cq; split <;> split <;> omega) (qnu_bd (by omega) (by omega) (by omega) (by omega))]
  unfold qdL
  congr 1
  omega
end Go.Proofs.YthblbmihpgkanaaDoor
