/- Values of FirstPair. Conditions: the listed table. -/
import Derived.Test.YtobbbaagoiejeaaDoorWordV
import Derived.BigQuiet
import Derived.Deep.QuietTactic
namespace Go.Proofs.YtobbbaagoiejeaaDoor
open Go.RowKit
set_option linter.unusedVariables false

/-- Byte number i of a text. -/
def by' (s : ByteArray) (i : Nat) : Nat := if h : i < s.size then (s[i]'h).toNat else 0
def fpF (s : ByteArray) : Nat → Nat → Int
  | 0, _ => -1
  | f + 1, n => if n < s.size then (if by' s n = by' s (n - 1) then (n : Int) else fpF s f (n + 1)) else -1
def fpV (s : ByteArray) : Int := fpF s (s.size + 1) 1
theorem wordV_size (k n : Int) : (wordV k n).size ≤ 256 := by
  unfold wordV
  split
  · rw [size_marks, wL_len]; omega
  · decide
set_option maxHeartbeats 1000000 in
theorem i_FirstPair (k n : Int) (w : World) (hT : Tab w) : Calls Tryd.prog 21 #[.int .i64 k, .int .i64 n] w fun e w' => e = .returned (.int .i64 (fpV (wordV k n))) ∧ Below w.heap.size w w' := by
  have hsz := wordV_size k n
  have HTB := Lib.hid hT
  go_enter Tryd.func21, Tryd.ntmps21
  go_wp2_with fail
  refine (i_SequenceWord k n _ HTB.out).mono ?_
  rintro e w1 ⟨rfl, hb⟩
  have HB := Lib.hid hb
  clear hb
  obtain ⟨s, hs⟩ : ∃ s, s = wordV k n := ⟨_, rfl⟩
  rw [← hs] at hsz ⊢
  have HSv := Lib.hid hs
  clear hs
  go_wp2_with fail
  go_loopw [6] (fun i wr => ∃ j f : Nat, i = .int .i64 j ∧ 1 ≤ j ∧ j + f = s.size + 2 ∧ Hid (fpV s = fpF s f j) ∧ Below w.heap.size w wr) (fun i _ => 258 - (intOf i).toNat)
  case atStart => exact ⟨1, s.size + 1, rfl, by omega, by omega, Lib.hid rfl, HB.out⟩
  case round =>
    obtain ⟨j, f, rfl, hj, hjf, HF, hW⟩ := hrel
    have HT := Lib.hid hW
    clear hW
    by_cases hlt : j < s.size
    · obtain ⟨f, rfl⟩ : ∃ q, f = q + 1 := ⟨f - 1, by omega⟩
      have b0 : (0 : Int) ≤ (j : Int) := by omega
      have b1 : (j : Int) < (s.size : Int) := by omega
      have b2 : (0 : Int) ≤ (j : Int) - 1 := by omega
      have b3 : (j : Int) - 1 < (s.size : Int) := by omega
      have b4 : IntKind.i64.wrap ((j : Int) - 1) = (j : Int) - 1 := by rw [IntKind.wrap_i64]; omega
      have b5 : ((j : Int) - 1).toNat = j - 1 := by omega
      have b6 : j - 1 < s.size := by omega
      have x1 : ((s[j]'hlt).toNat : Nat) = by' s j := by unfold by'; rw [dif_pos hlt]
      have x2 : ((s[j - 1]'b6).toNat : Nat) = by' s (j - 1) := by unfold by'; rw [dif_pos b6]
      obtain ⟨x, hx⟩ : ∃ x, x = by' s j := ⟨_, rfl⟩
      obtain ⟨y, hy⟩ : ∃ y, y = by' s (j - 1) := ⟨_, rfl⟩
      rw [← hx] at x1
      rw [← hy] at x2
      have HX := Lib.hid hx
      have HY := Lib.hid hy
      clear hx hy
      by_cases hxy : x = y
      · have t1 : ((x : Int) == (y : Int)) = true := by simp [hxy]
        have HR : Hid (fpV s = (j : Int)) := Lib.hid (by rw [HF.out, fpF, if_pos hlt, ← HX.out, ← HY.out, if_pos hxy])
        have HXY := Lib.hid hxy
        clear hxy
        go_wp2_with fail
        go_quiet (fail)
        go_wp2
        go_ret
        exact ⟨by rw [← HSv.out, HR.out]; rfl, b_drewN HT.out _⟩
      · have t1 : ((x : Int) == (y : Int)) = false := by simp; omega
        have HR : Hid (fpV s = fpF s f (j + 1)) := Lib.hid (by rw [HF.out, fpF, if_pos hlt, ← HX.out, ← HY.out, if_neg hxy])
        have HXY := Lib.hid hxy
        clear hxy
        go_wp2_with fail
        go_quiet (fail)
        go_wp2
        go_roundw
        case rel => exact ⟨j + 1, f, by go_num, by omega, by omega, HR, b_drewN HT.out _⟩
        case measure => simp [intOf]; omega
    · have HR : Hid (fpV s = -1) := Lib.hid (by
        rw [HF.out]
        cases f with
        | zero => rfl
        | succ f => rw [fpF, if_neg hlt])
      go_wp2
      go_ret
      exact ⟨by rw [← HSv.out, HR.out]; rfl, HT.out⟩
set_option maxHeartbeats 1000000 in
theorem s_FirstPair (k n : Int) (w : World) : Calls Tryd.prog 20 #[.int .i64 k, .int .i64 n] w fun e w' => e = .returned (.int .i64 (fpV (wordV k n))) ∧ Below w.heap.size w w' := by
  have hsz := wordV_size k n
  go_enter Tryd.func20, Tryd.ntmps20
  go_wp2_with fail
  refine (s_SequenceWord k n _).mono ?_
  rintro e w1 ⟨rfl, hb⟩
  have HB := Lib.hid hb
  clear hb
  obtain ⟨s, hs⟩ : ∃ s, s = wordV k n := ⟨_, rfl⟩
  rw [← hs] at hsz ⊢
  have HSv := Lib.hid hs
  clear hs
  go_wp2_with fail
  go_loopw [6] (fun i wr => ∃ j f : Nat, i = .int .i64 j ∧ 1 ≤ j ∧ j + f = s.size + 2 ∧ Hid (fpV s = fpF s f j) ∧ Below w.heap.size w wr) (fun i _ => 258 - (intOf i).toNat)
  case atStart => exact ⟨1, s.size + 1, rfl, by omega, by omega, Lib.hid rfl, HB.out⟩
  case round =>
    obtain ⟨j, f, rfl, hj, hjf, HF, hW⟩ := hrel
    have HT := Lib.hid hW
    clear hW
    by_cases hlt : j < s.size
    · obtain ⟨f, rfl⟩ : ∃ q, f = q + 1 := ⟨f - 1, by omega⟩
      have b0 : (0 : Int) ≤ (j : Int) := by omega
      have b1 : (j : Int) < (s.size : Int) := by omega
      have b2 : (0 : Int) ≤ (j : Int) - 1 := by omega
      have b3 : (j : Int) - 1 < (s.size : Int) := by omega
      have b4 : IntKind.i64.wrap ((j : Int) - 1) = (j : Int) - 1 := by rw [IntKind.wrap_i64]; omega
      have b5 : ((j : Int) - 1).toNat = j - 1 := by omega
      have b6 : j - 1 < s.size := by omega
      have x1 : ((s[j]'hlt).toNat : Nat) = by' s j := by unfold by'; rw [dif_pos hlt]
      have x2 : ((s[j - 1]'b6).toNat : Nat) = by' s (j - 1) := by unfold by'; rw [dif_pos b6]
      obtain ⟨x, hx⟩ : ∃ x, x = by' s j := ⟨_, rfl⟩
      obtain ⟨y, hy⟩ : ∃ y, y = by' s (j - 1) := ⟨_, rfl⟩
      rw [← hx] at x1
      rw [← hy] at x2
      have HX := Lib.hid hx
      have HY := Lib.hid hy
      clear hx hy
      by_cases hxy : x = y
      · have t1 : ((x : Int) == (y : Int)) = true := by simp [hxy]
        have HR : Hid (fpV s = (j : Int)) := Lib.hid (by rw [HF.out, fpF, if_pos hlt, ← HX.out, ← HY.out, if_pos hxy])
        have HXY := Lib.hid hxy
        clear hxy
        go_wp2_with fail
        go_quiet (fail)
        go_wp2
        go_ret
        exact ⟨by rw [← HSv.out, HR.out]; rfl, b_drewN HT.out _⟩
      · have t1 : ((x : Int) == (y : Int)) = false := by simp; omega
        have HR : Hid (fpV s = fpF s f (j + 1)) := Lib.hid (by rw [HF.out, fpF, if_pos hlt, ← HX.out, ← HY.out, if_neg hxy])
        have HXY := Lib.hid hxy
        clear hxy
        go_wp2_with fail
        go_quiet (fail)
        go_wp2
        go_roundw
        case rel => exact ⟨j + 1, f, by go_num, by omega, by omega, HR, b_drewN HT.out _⟩
        case measure => simp [intOf]; omega
    · have HR : Hid (fpV s = -1) := Lib.hid (by
        rw [HF.out]
        cases f with
        | zero => rfl
        | succ f => rw [fpF, if_neg hlt])
      go_wp2
      go_ret
      exact ⟨by rw [← HSv.out, HR.out]; rfl, HT.out⟩
end Go.Proofs.YtobbbaagoiejeaaDoor
