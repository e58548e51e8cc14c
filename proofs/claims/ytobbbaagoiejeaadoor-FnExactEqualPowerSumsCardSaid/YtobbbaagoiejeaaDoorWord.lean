/- Words of the sequences: contracts of partWord, l19Word, SequenceWord and PartWord. Conditions: the listed table. -/
import Derived.Test.YtobbbaagoiejeaaDoorSeqV
import Derived.Test.YtobbbaagoiejeaaDoorMarkF
namespace Go.Proofs.YtobbbaagoiejeaaDoor
open Go.RowKit
set_option linter.unusedVariables false

theorem size_marks (xs : List Int) : (marksOf xs).size = xs.length := by unfold marksOf; rw [strOfNums_size, List.length_map]
def wL (kk r s n : Nat) : List Int := (List.range n).map fun j => ((sq kk (r + j * s) : Nat) : Int)
theorem wL_len (kk r s n : Nat) : (wL kk r s n).length = n := by simp [wL]
theorem wL_succ (kk r s n : Nat) : wL kk r s (n + 1) = wL kk r s n ++ [((sq kk (r + n * s) : Nat) : Int)] := by simp [wL, List.range_succ]
theorem wL_get {kk r s n j : Nat} (h : j < n) : (wL kk r s n).getD j 0 = ((sq kk (r + j * s) : Nat) : Int) := by
  unfold wL
  rw [List.getD_eq_getElem?_getD, List.getElem?_map, List.getElem?_range h]
  rfl

set_option maxHeartbeats 1000000 in
theorem s_word (kk r s n : Nat) (w : World) (h1 : 1 ≤ kk) (h5 : kk ≤ 5) (hr : r ≤ 64) (hs : s ≤ 64) (hn : n ≤ 256) :
    Calls Tryd.prog 34 #[.int .i64 (kk : Nat), .int .i64 (r : Nat), .int .i64 (s : Nat), .int .i64 (n : Nat)] w fun e w' => e = .returned (.string (marksOf (wL kk r s n))) ∧ Below w.heap.size w w' := by
  go_enter Tryd.func34, Tryd.ntmps34
  go_wp2
  go_loopw [10, 9] (fun i v wr => ∃ j : Nat, j ≤ n ∧ i = .int .i64 j ∧ v = .string (marksOf (wL kk r s j)) ∧ Below w.heap.size w wr) (fun i _ _ => n - (intOf i).toNat)
  case atStart => exact ⟨0, Nat.zero_le _, rfl, rfl, Below.refl _ _⟩
  case round =>
    obtain ⟨j, hj, rfl, rfl, hW⟩ := hrel
    have HT := Lib.hid hW
    clear hW
    by_cases hlt : j < n
    · have p0 : j * s ≤ 256 * 64 := Nat.mul_le_mul (by omega) hs
      obtain ⟨p, hp⟩ : ∃ p, p = j * s := ⟨_, rfl⟩
      have q1 : (j : Int) * (s : Int) = (p : Int) := by rw [hp]; exact (Int.natCast_mul j s).symm
      have q2 : (r : Int) + (p : Int) = ((r + p : Nat) : Int) := (Int.natCast_add r p).symm
      have HS := Lib.hid (wL_succ kk r s j)
      rw [← hp] at p0
      have y9 := sq_le kk (r + p)
      obtain ⟨y, hy⟩ : ∃ y, y = sq kk (r + p) := ⟨_, rfl⟩
      rw [← hy] at y9
      have sz1 := size_marks (wL kk r s j)
      rw [wL_len] at sz1
      have sz2 := size_marks [(y : Int)]
      have HY := Lib.hid hy
      have HP := Lib.hid hp
      clear hy hp q2
      go_wp2_with (first | (go_at_call 29; rw [show (r : Int) + (p : Int) = ((r + p : Nat) : Int) from (Int.natCast_add r p).symm]; refine (s_at kk (r + p) _ h1 h5 (by omega)).mono ?_; rw [← HY.out]; rintro e w1 ⟨rfl, hb1⟩; have HB1 := Lib.hid (b_step HT.out hb1); clear hb1) | (go_at_call 48; refine (s_sign (y : Int) _ (by omega) (by omega)).mono ?_; rintro e w2 ⟨rfl, hb2⟩; have HB2 := Lib.hid (b_step HB1.out hb2); clear hb2))
      go_roundw
      case rel => exact ⟨j + 1, by omega, by go_num, by rw [HS.out, marksOf_append, ← HP.out, ← HY.out], HB2.out⟩
      case measure => simp [intOf]; omega
    · obtain rfl : j = n := by omega
      go_wp2
      go_ret
      exact ⟨rfl, HT.out⟩

set_option maxHeartbeats 1000000 in
theorem i_word (kk r s n : Nat) (w : World) (h1 : 1 ≤ kk) (h5 : kk ≤ 5) (hr : r ≤ 64) (hs : s ≤ 64) (hn : n ≤ 256) (hT : Tab w) :
    Calls Tryd.prog 35 #[.int .i64 (kk : Nat), .int .i64 (r : Nat), .int .i64 (s : Nat), .int .i64 (n : Nat)] w fun e w' => e = .returned (.string (marksOf (wL kk r s n))) ∧ Below w.heap.size w w' := by
  have hmk := run_make_row' (P := Tryd.prog) 46 5 (.int .u8 0) 1 Tryd.underlying46 info_u8 rfl .i64 .i64 n (by omega) (by omega)
  have HTB := Lib.hid hT
  go_enter Tryd.func35, Tryd.ntmps35
  go_wp2_with (first | (go_at_call 30; refine (i_kind_t _ _ ?_ ?_).mono ?_; omega; omega; rintro e w1 ⟨rfl, rfl⟩) | (go_at_call 30; refine (i_kind_f _ _ ?_).mono ?_; omega; rintro e w1 ⟨rfl, rfl⟩))
  go_loopw [18] (fun i wr => ∃ k : Nat, k ≤ n ∧ i = .int .i64 k ∧ (∃ cs, BM wr w.heap.size cs ∧ cs.size = n ∧ FillM cs k (wL kk r s n)) ∧ Below w.heap.size w wr) (fun i _ => n - (intOf i).toNat)
  case atStart => exact ⟨0, Nat.zero_le _, rfl, ⟨_, BM.new _ _, by simp [madeCells], fun j hj => by omega⟩, b_alloc (Below.refl _ _) _⟩
  case round =>
    obtain ⟨j, hj, rfl, ⟨cs, hB, hsz, hF⟩, hW⟩ := hrel
    have HT := Lib.hid hW
    have HT1 := Lib.hid (HTB.out.below hW)
    clear hW
    by_cases hlt : j < n
    · have HB := Lib.hid hB
      have HF := Lib.hid hF
      have HS := Lib.hid hsz
      obtain ⟨v0, hv0⟩ := hB.ex (i := j) (by omega)
      have HV := Lib.hid hv0
      clear hB hF hsz hv0
      have p0 : j * s ≤ 256 * 64 := Nat.mul_le_mul (by omega) hs
      obtain ⟨p, hp⟩ : ∃ p, p = j * s := ⟨_, rfl⟩
      have q1 : (j : Int) * (s : Int) = (p : Int) := by rw [hp]; exact (Int.natCast_mul j s).symm
      rw [← hp] at p0
      have HG := Lib.hid (wL_get (kk := kk) (r := r) (s := s) hlt)
      have y9 := sq_le kk (r + p)
      obtain ⟨y, hy⟩ : ∃ y, y = sq kk (r + p) := ⟨_, rfl⟩
      rw [← hy] at y9
      have HY := Lib.hid hy
      have HP := Lib.hid hp
      clear hy hp
      go_wp2_with (first | (go_at_call 32; rw [show (r : Int) + (p : Int) = ((r + p : Nat) : Int) from (Int.natCast_add r p).symm]; refine (i_at kk (r + p) _ h1 h5 (by omega) HT1.out).mono ?_; rw [← HY.out]; rintro e w1 ⟨rfl, hb1⟩; have B1 : BM w1 w.heap.size cs := (hb1.block _ HB.out.lt).trans HB.out; have c1 := (B1.cell j).trans ((HB.out.cell j).symm.trans HV.out); have f1 := B1.frozen j; have HB1 := Lib.hid B1; have HW1 := Lib.hid (b_step HT.out hb1); clear hb1 B1))
      go_roundw
      case rel => exact ⟨j + 1, by omega, by go_num, ⟨_, HB1.out.set_ j _, by simp [HS.out], HF.out.step (by have := HS.out; omega) (by rw [HG.out, ← HP.out, ← HY.out]; exact congrArg _ (mark_at (y : Int) (by omega) (by omega) _))⟩, b_set HW1.out (Nat.le_refl _) _⟩
      case measure => simp [intOf]; omega
    · obtain rfl : j = n := by omega
      have hl := wL_len kk r s j
      have hcv := run_convert_bytes_arg (P := Tryd.prog) wr 46 5 Tryd.underlying46 Tryd.underlying5 w.heap.size 0 j j ((wL kk r s j).map mkc) (by simp [hl]) (fun i hi => by rw [Nat.zero_add, hB.cell, hF i hi]; have : i < (wL kk r s j).length := (by omega); simp [List.getD_eq_getElem?_getD, this]) 9 Tryd.underlying9
      clear hl
      go_wp2
      go_ret
      exact ⟨rfl, HT.out⟩
end Go.Proofs.YtobbbaagoiejeaaDoor
