/- Contract of FormatExpansion (program). Conditions: lengths of at most 2^20. -/
import Derived.Test.YtnbhbifcjcfmaaaMark
import Derived.Outline
import Derived.WalkSpells
namespace Go.Proofs.Ytnbhbifcjcfmaaa
open Go.RowKit
set_option linter.unusedVariables false

/-- The text of an expansion. -/
noncomputable def fmtE (b : Int) (xs ys : List Int) : ByteArray :=
  bif lpB b xs ys then (if ys = [] then ByteArray.mk #[48, 46] ++ marksOf xs else (ByteArray.mk #[48, 46] ++ marksOf xs) ++ (ByteArray.mk #[40] ++ marksOf ys ++ ByteArray.mk #[41])) else ByteArray.empty
theorem size_marks (xs : List Int) : (marksOf xs).size = xs.length := by unfold marksOf; rw [strOfNums_size, List.length_map]
theorem LP.dig {b : Int} {xs ys : List Int} (h : lpB b xs ys = true) : (∀ x ∈ xs, 0 ≤ x ∧ x ≤ 15) ∧ (∀ x ∈ ys, 0 ≤ x ∧ x ≤ 15) ∧ xs.length ≤ 9 ∧ ys.length ≤ 9 := by
  have H : LP b xs ys := by
    unfold lpB at h; exact @of_decide_eq_true _ (Classical.propDecidable _) h
  obtain ⟨hb, hl, hx, hy⟩ := H
  have := baseB_bd hb
  rw [allB_iff] at hx hy
  exact ⟨fun x h => by have := hx x h; omega, fun x h => by have := hy x h; omega, by omega, by omega⟩
theorem fmtE_f {b : Int} {xs ys : List Int} (h : lpB b xs ys = false) : fmtE b xs ys = ByteArray.empty := by unfold fmtE; rw [h]; rfl
theorem fmtE_0 {b : Int} {xs ys : List Int} (h : lpB b xs ys = true) (h0 : ys.length = 0) : fmtE b xs ys = ByteArray.mk #[48, 46] ++ marksOf xs := by
  obtain rfl := List.eq_nil_of_length_eq_zero h0
  unfold fmtE; rw [h]; simp
theorem fmtE_1 {b : Int} {xs ys : List Int} (h : lpB b xs ys = true) (h0 : ys ≠ []) : fmtE b xs ys = (ByteArray.mk #[48, 46] ++ marksOf xs) ++ (ByteArray.mk #[40] ++ marksOf ys ++ ByteArray.mk #[41]) := by unfold fmtE; rw [h]; simp [h0]
set_option maxHeartbeats 1000000 in
theorem i_fmt (A C : Option Addr) (xs ys : List Int) (c1 c2 : Nat) (b : Int) (w : World) (hR : RI w w.heap.size A xs) (hS : RI w w.heap.size C ys) (hlx : xs.length ≤ 1048576) (hly : ys.length ≤ 1048576) :
    Calls Try.prog 28 #[.slice A xs.length c1, .slice C ys.length c2, .int .i64 b] w fun e w' => e = .returned (.string (fmtE b xs ys)) ∧ Below w.heap.size w w' := by
  cases hb : lpB b xs ys
  · have H := Lib.hid (fmtE_f hb)
    have HB := Lib.hid hb
    clear hb
    go_enter Try.func28, Try.ntmps28
    go_wp2_with fail
    refine (i_lok A C xs ys c1 c2 b _ hR hS hlx hly).mono ?_
    rw [HB.out]
    rintro e w1 ⟨rfl, hb1⟩
    go_wp2
    go_ret
    exact ⟨by rw [H.out]; rfl, hb1⟩
  · have HB := Lib.hid hb
    obtain ⟨dx, dy, lx, ly⟩ := LP.dig hb
    have HDX := Lib.hid dx
    have szx := size_marks xs
    have szy := size_marks ys
    have HDY := Lib.hid dy
    clear dx dy
    rcases Nat.eq_zero_or_pos ys.length with h0 | hp
    · have H := Lib.hid (fmtE_0 hb h0)
      have H0 := Lib.hid h0
      clear hb h0
      go_enter Try.func28, Try.ntmps28
      go_wp2_with fail
      refine (i_lok A C xs ys c1 c2 b _ hR hS hlx hly).mono ?_
      rw [HB.out]
      rintro e w1 ⟨rfl, hb1⟩
      have T1 := Lib.hid hb1
      have hR1 := hR.below hb1
      clear hb1 hR
      go_wp2_with fail
      refine (i_mark A xs c1 _ (hR1.more T1.out.size) (by omega) HDX.out).mono ?_
      rintro e w2 ⟨rfl, hb2⟩
      have T2 := Lib.hid (b_step T1.out hb2)
      clear hb2 hR1
      have h0 := H0.out
      go_wp2
      go_ret
      exact ⟨by rw [H.out]; rfl, T2.out⟩
    · have H := Lib.hid (fmtE_1 hb fun e => by subst e; exact absurd hp (by decide))
      clear hb
      go_enter Try.func28, Try.ntmps28
      go_wp2_with fail
      refine (i_lok A C xs ys c1 c2 b _ hR hS hlx hly).mono ?_
      rw [HB.out]
      rintro e w1 ⟨rfl, hb1⟩
      have T1 := Lib.hid hb1
      have hR1 := hR.below hb1
      have HS := Lib.hid hS
      clear hb1 hR hS
      go_wp2_with fail
      refine (i_mark A xs c1 _ (hR1.more T1.out.size) (by omega) HDX.out).mono ?_
      rintro e w2 ⟨rfl, hb2⟩
      have T2 := Lib.hid (b_step T1.out hb2)
      have hS2 := (HS.out.below T2.out).more T2.out.size
      clear hb2 hR1
      go_wp2_with fail
      refine (i_mark C ys c2 _ hS2 (by omega) HDY.out).mono ?_
      rintro e w3 ⟨rfl, hb3⟩
      have T3 := Lib.hid (b_step T2.out hb3)
      clear hb3 hS2
      go_wp2
      go_ret
      exact ⟨by rw [H.out]; rfl, T3.out⟩
end Go.Proofs.Ytnbhbifcjcfmaaa
