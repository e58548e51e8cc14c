/- Contract of FormatExpansion (reference). Conditions: lengths of at most 2^20. -/
import Derived.Test.YtnbhbifcjcfmaaaFmt
import Derived.Outline
import Derived.WalkSpells
namespace Go.Proofs.Ytnbhbifcjcfmaaa
open Go.RowKit
set_option linter.unusedVariables false

set_option maxHeartbeats 1000000 in
theorem s_fmt (a1 a2 : Addr) (xs ys : List Int) (c1 c2 : Nat) (b : Int) (w : World) (hR : RI w w.heap.size (some a1) xs) (hS : RI w w.heap.size (some a2) ys) (hlx : xs.length ≤ 1048576) (hly : ys.length ≤ 1048576) :
    Calls Try.prog 26 #[.slice (some a1) xs.length c1, .slice (some a2) ys.length c2, .int .i64 b] w fun e w' => e = .returned (.string (fmtE b xs ys)) ∧ Below w.heap.size w w' := by
  cases hb : lpB b xs ys
  · have H := Lib.hid (fmtE_f hb)
    have HB := Lib.hid hb
    clear hb
    go_enter Try.func26, Try.ntmps26
    go_wp2_with fail
    refine (s_lok a1 a2 xs ys c1 c2 b _ hR hS (by omega) (by omega)).mono ?_
    rw [HB.out]
    rintro e w1 ⟨rfl, hb1⟩
    go_wp2
    go_ret
    exact ⟨by rw [H.out]; rfl, hb1⟩
  · have HB := Lib.hid hb
    obtain ⟨dx, dy, lx, ly⟩ := LP.dig hb
    have HDX := Lib.hid dx
    have HDY := Lib.hid dy
    have szx := size_marks xs
    have szy := size_marks ys
    clear dx dy
    rcases Nat.eq_zero_or_pos ys.length with h0 | hp
    · have H := Lib.hid (fmtE_0 hb h0)
      have H0 := Lib.hid h0
      clear hb h0
      go_enter Try.func26, Try.ntmps26
      go_wp2_with fail
      refine (s_lok a1 a2 xs ys c1 c2 b _ hR hS (by omega) (by omega)).mono ?_
      rw [HB.out]
      rintro e w1 ⟨rfl, hb1⟩
      have T1 := Lib.hid hb1
      have HR1 := Lib.hid hR
      have HS1 := Lib.hid hS
      clear hb1 hR hS
      go_wp2
      go_loopw [7, 19] (fun s i wr => ∃ k : Nat, k ≤ xs.length ∧ i = .int .i64 k ∧ s = .string ((ByteArray.mk #[48, 46]) ++ marksOf (xs.take k)) ∧ Below w.heap.size w wr) (fun _ i _ => xs.length - (intOf i).toNat)
      case atStart => exact ⟨0, Nat.zero_le _, rfl, by rw [List.take_zero]; first | rfl | (simp [marksOf, strOfNums_nil]), T1.out⟩
      case round =>
        obtain ⟨k, hk, rfl, rfl, hW⟩ := hrel
        by_cases hlt : k < xs.length
        · obtain ⟨b0, off, hA, hb0, hc⟩ := (HR1.out.below hW).at_ hlt
          injection hA with hA
          subst hA
          obtain ⟨x0, x1⟩ := HDX.out xs[k] (List.getElem_mem hlt)
          have hwk := hW.size
          have HW := Lib.hid hW
          have szt := size_marks (xs.take k)
          have szo := size_marks [xs[k]]
          have szl : (xs.take k).length ≤ 9 := by rw [List.length_take]; omega
          have HE := Lib.hid (show ((ByteArray.mk #[48, 46]) ++ marksOf (xs.take k)) ++ marksOf [xs[k]] = (ByteArray.mk #[48, 46]) ++ marksOf (xs.take (k + 1)) by rw [ba_assoc, ← marksOf_append, List.take_succ_eq_append_getElem hlt])
          clear hW
          go_wp2_with fail
          refine (s_sign xs[k] _ x0 x1).mono ?_
          rintro e w5 ⟨rfl, hb5⟩
          have T5 := Lib.hid (b_step HW.out hb5)
          clear hb5
          go_wp2
          go_roundw
          case rel => exact ⟨k + 1, by omega, by go_num, by rw [HE.out], T5.out⟩
          case measure => simp [intOf]; omega
        · obtain rfl : k = xs.length := by omega
          rw [List.take_of_length_le (Nat.le_refl _)]
          have TX := Lib.hid hW
          clear hW
          have h0 := H0.out
          go_wp2
          go_ret
          exact ⟨by rw [H.out]; rfl, TX.out⟩
    · have H := Lib.hid (fmtE_1 hb fun e => by subst e; exact absurd hp (by decide))
      clear hb
      go_enter Try.func26, Try.ntmps26
      go_wp2_with fail
      refine (s_lok a1 a2 xs ys c1 c2 b _ hR hS (by omega) (by omega)).mono ?_
      rw [HB.out]
      rintro e w1 ⟨rfl, hb1⟩
      have T1 := Lib.hid hb1
      have HR1 := Lib.hid hR
      have HS1 := Lib.hid hS
      clear hb1 hR hS
      go_wp2
      go_loopw [7, 19] (fun s i wr => ∃ k : Nat, k ≤ xs.length ∧ i = .int .i64 k ∧ s = .string ((ByteArray.mk #[48, 46]) ++ marksOf (xs.take k)) ∧ Below w.heap.size w wr) (fun _ i _ => xs.length - (intOf i).toNat)
      case atStart => exact ⟨0, Nat.zero_le _, rfl, by rw [List.take_zero]; first | rfl | (simp [marksOf, strOfNums_nil]), T1.out⟩
      case round =>
        obtain ⟨k, hk, rfl, rfl, hW⟩ := hrel
        by_cases hlt : k < xs.length
        · obtain ⟨b0, off, hA, hb0, hc⟩ := (HR1.out.below hW).at_ hlt
          injection hA with hA
          subst hA
          obtain ⟨x0, x1⟩ := HDX.out xs[k] (List.getElem_mem hlt)
          have hwk := hW.size
          have HW := Lib.hid hW
          have szt := size_marks (xs.take k)
          have szo := size_marks [xs[k]]
          have szl : (xs.take k).length ≤ 9 := by rw [List.length_take]; omega
          have HE := Lib.hid (show ((ByteArray.mk #[48, 46]) ++ marksOf (xs.take k)) ++ marksOf [xs[k]] = (ByteArray.mk #[48, 46]) ++ marksOf (xs.take (k + 1)) by rw [ba_assoc, ← marksOf_append, List.take_succ_eq_append_getElem hlt])
          clear hW
          go_wp2_with fail
          refine (s_sign xs[k] _ x0 x1).mono ?_
          rintro e w5 ⟨rfl, hb5⟩
          have T5 := Lib.hid (b_step HW.out hb5)
          clear hb5
          go_wp2
          go_roundw
          case rel => exact ⟨k + 1, by omega, by go_num, by rw [HE.out], T5.out⟩
          case measure => simp [intOf]; omega
        · obtain rfl : k = xs.length := by omega
          rw [List.take_of_length_le (Nat.le_refl _)]
          have TX := Lib.hid hW
          clear hW
          have hy0 : (((ys.length : Nat) : Int) == 0) = false := by simp; intro hh; subst hh; exact absurd hp (by decide)
          go_wp2
          go_loopw [7, 36] (fun s i wr => ∃ k : Nat, k ≤ ys.length ∧ i = .int .i64 k ∧ s = .string ((ByteArray.mk #[48, 46] ++ marksOf xs ++ ByteArray.mk #[40]) ++ marksOf (ys.take k)) ∧ Below w.heap.size w wr) (fun _ i _ => ys.length - (intOf i).toNat)
          case atStart => exact ⟨0, Nat.zero_le _, rfl, by rw [List.take_zero]; first | rfl | (simp [marksOf, strOfNums_nil]), TX.out⟩
          case round =>
            obtain ⟨k, hk, rfl, rfl, hW⟩ := hrel
            by_cases hlt : k < ys.length
            · obtain ⟨b0, off, hA, hb0, hc⟩ := (HS1.out.below hW).at_ hlt
              injection hA with hA
              subst hA
              obtain ⟨x0, x1⟩ := HDY.out ys[k] (List.getElem_mem hlt)
              have hwk := hW.size
              have HW := Lib.hid hW
              have szt := size_marks (ys.take k)
              have szo := size_marks [ys[k]]
              have szl : (ys.take k).length ≤ 9 := by rw [List.length_take]; omega
              have HE := Lib.hid (show ((ByteArray.mk #[48, 46] ++ marksOf xs ++ ByteArray.mk #[40]) ++ marksOf (ys.take k)) ++ marksOf [ys[k]] = (ByteArray.mk #[48, 46] ++ marksOf xs ++ ByteArray.mk #[40]) ++ marksOf (ys.take (k + 1)) by rw [ba_assoc, ← marksOf_append, List.take_succ_eq_append_getElem hlt])
              clear hW
              go_wp2_with fail
              refine (s_sign ys[k] _ x0 x1).mono ?_
              rintro e w5 ⟨rfl, hb5⟩
              have T5 := Lib.hid (b_step HW.out hb5)
              clear hb5
              go_wp2
              go_roundw
              case rel => exact ⟨k + 1, by omega, by go_num, by rw [HE.out], T5.out⟩
              case measure => simp [intOf]; omega
            · obtain rfl : k = ys.length := by omega
              rw [List.take_of_length_le (Nat.le_refl _)]
              have TY := Lib.hid hW
              clear hW
              go_wp2
              go_ret
              exact ⟨by rw [H.out]; simp only [ba_assoc]; rfl, TY.out⟩
end Go.Proofs.Ytnbhbifcjcfmaaa
