/- The decimal text of a number, as bytes. Conditions: none. -/
import Derived.Test.YtoihjapbidbpdaaDoorBase
import Derived.Laws.BytesArg
import Derived.Lib.ItoaMem
import Derived.Lib.ItoaLen
namespace Go.Proofs.YtoihjapbidbpdaaDoor
open Go.RowKit
set_option linter.unusedVariables false
/-- The decimal text of a natural number. -/
def dtx (u : Nat) : ByteArray := ⟨(Lib.decDigits u).toArray⟩
/-- The decimal text of an integer. -/
def itx (n : Int) : ByteArray := ⟨(Lib.itoa n).toArray⟩
theorem u8_of (a : Nat) : UInt8.ofNat ((a : Int)).toNat = UInt8.ofNat a := by simp
theorem dtx_small {u : Nat} (h : u < 10) : dtx u = strOfNums [48 + (u : Int)] := by
  unfold dtx strOfNums
  rw [Lib.decDigits_one h, show (48 + (u : Int)) = ((48 + u : Nat) : Int) by omega]
  rfl
theorem dtx_big {u : Nat} (h : ¬ u < 10) : dtx u = dtx (u / 10) ++ strOfNums [48 + ((u % 10 : Nat) : Int)] := by
  apply ByteArray.ext
  apply Array.ext'
  unfold dtx strOfNums
  rw [Lib.decDigits, dif_neg h, show (48 + ((u % 10 : Nat) : Int)) = ((48 + u % 10 : Nat) : Int) by omega]
  rw [ByteArray.data_append, Array.toList_append]
  rfl
theorem itx_nonneg (u : Nat) : itx (u : Int) = dtx u := by unfold itx dtx; rw [Lib.itoa_nonneg]
theorem itx_neg (u : Nat) (h : 1 ≤ u) : itx (-(u : Int)) = (⟨#[45]⟩ : ByteArray) ++ dtx u := by
  apply ByteArray.ext
  apply Array.ext'
  unfold itx dtx
  rw [Lib.itoa_neg u h]
  simp
theorem ba_assoc (a b c : ByteArray) : (a ++ b) ++ c = a ++ (b ++ c) := by
  apply ByteArray.ext
  apply Array.ext'
  simp
theorem ba_nil (a : ByteArray) : a ++ (⟨#[]⟩ : ByteArray) = a := by
  apply ByteArray.ext
  apply Array.ext'
  simp
theorem size_dtx (u : Nat) (h : u ≤ 1000000000) : (dtx u).size ≤ 30 := by
  have := Lib.nDigits_le20 u (by omega)
  show (Lib.decDigits u).length ≤ 30
  rw [Lib.decDigits_length]
  omega
theorem tdiv_neg (u : Nat) : (-(u : Int)).tdiv 10 = -((u / 10 : Nat) : Int) := by
  rw [Int.neg_tdiv, Int.tdiv_eq_ediv_of_nonneg (by omega)]; omega
theorem tmod_neg (u : Nat) : (-(u : Int)).tmod 10 = -((u % 10 : Nat) : Int) := by
  rw [Int.neg_tmod, Int.tmod_eq_emod_of_nonneg (by omega)]; omega
end Go.Proofs.YtoihjapbidbpdaaDoor
