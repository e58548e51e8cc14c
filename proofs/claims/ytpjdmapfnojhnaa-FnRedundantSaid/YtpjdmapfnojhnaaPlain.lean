/- Contracts of PlainDigits (program and reference). Conditions: lengths of at most 2^20. -/
import Derived.Test.YtpjdmapfnojhnaaAdd
namespace Go.Proofs.Ytpjdmapfnojhnaa
open Go.RowKit
set_option linter.unusedVariables false

noncomputable def plOk (b : Int) (xs : List Int) : Bool := redB b xs && decide (0 ≤ val b xs)
noncomputable def plR (b : Int) (xs : List Int) : List Int := if plOk b xs then digs b (val b xs) else []
theorem length_digs (b m : Int) : (digs b m).length ≤ 64 := length_dg b 64 m
theorem length_plR (b : Int) (xs : List Int) : (plR b xs).length ≤ 4294967296 := by
  unfold plR
  split
  · have := length_digs b (val b xs); omega
  · simp
theorem RetL.toLB {w w0 w' : World} {xs : List Int} {e : Ending} (h : RetL w0 xs e w') (h0 : Below w.heap.size w w0) : ∃ A c, e = .returned (.slice A xs.length c) ∧ OI w' w.heap.size A xs ∧ Below w.heap.size w w' := by
  obtain ⟨A, c, he, hO, hb⟩ := h
  refine ⟨A, c, he, ?_, b_step h0 hb⟩
  rcases hO with h | ⟨g, off, cs, hA, hB, r⟩
  · exact .inl h
  · exact .inr ⟨g, off, cs, hA, Nat.le_trans h0.size hB, r⟩

set_option maxHeartbeats 1000000 in
theorem i_plain (A : Option Addr) (xs : List Int) (c : Nat) (b : Int) (w : World) (hR : RI w w.heap.size A xs) (hl : xs.length ≤ 1048576) :
    Calls Try.prog 27 #[.slice A xs.length c, .int .i64 b] w (RetLB w (plR b xs) (plOk b xs)) := by
  by_cases h : RedP b xs
  · have HQ := Lib.hid (redB_t h)
    have HV := Lib.hid (redV_t h)
    have hv := val_bd12 (b := b) (xs := xs) (by have := h.1; have := h.2.1; omega) h.2.2.1 h.digits
    have b3 := h.1
    have b16 := h.2.1
    obtain ⟨v, hvv⟩ : ∃ v, v = val b xs := ⟨_, rfl⟩
    rw [← hvv] at hv
    have HX := Lib.hid hvv
    clear h hvv
    by_cases h0 : 0 ≤ v
    · have HP := Lib.hid (show plOk b xs = true by unfold plOk; rw [HQ.out, ← HX.out]; simp [h0])
      have HR := Lib.hid (show plR b xs = digs b v by unfold plR; rw [HP.out, ← HX.out]; rfl)
      have v1 : v < 4611686018427387904 := by omega
      clear hv
      go_enter Try.func27, Try.ntmps27
      go_wp2_with fail
      refine (i_redVal A xs c b _ hR (by omega)).mono ?_
      rw [HV.out, ← HX.out]
      rintro e w1 ⟨rfl, hb1⟩
      have R1 := hR.below hb1
      have s1 := hb1.size
      have T1 := b_step (Below.refl _ _) hb1
      clear hb1 hR
      go_wp2_with fail
      refine (i_redOk A xs c b _ (R1.more s1) (by omega)).mono ?_
      rw [HQ.out]
      rintro e w2 ⟨rfl, hb2⟩
      have T2 := b_step T1 hb2
      clear hb2 R1 T1
      go_wp2_with fail
      refine (i_digitsOf v b _ h0 v1 (by omega) (by omega)).mono ?_
      intro e w3 h3
      obtain ⟨A3, c3, rfl, hO, hb3⟩ := h3.toLB T2
      clear h3 T2
      go_wp2
      go_ret2
      rw [HR.out, HP.out]
      exact ⟨A3, c3, rfl, hO, hb3⟩
    · have HP := Lib.hid (show plOk b xs = false by unfold plOk; rw [HQ.out, ← HX.out]; simp [h0])
      have HR := Lib.hid (show plR b xs = [] by unfold plR; rw [HP.out]; rfl)
      clear hv
      go_enter Try.func27, Try.ntmps27
      go_wp2_with fail
      refine (i_redVal A xs c b _ hR (by omega)).mono ?_
      rw [HV.out, ← HX.out]
      rintro e w1 ⟨rfl, hb1⟩
      have R1 := hR.below hb1
      have s1 := hb1.size
      have T1 := b_step (Below.refl _ _) hb1
      clear hb1 hR
      go_wp2_with fail
      refine (i_redOk A xs c b _ (R1.more s1) (by omega)).mono ?_
      rw [HQ.out]
      rintro e w2 ⟨rfl, hb2⟩
      have T2 := Lib.hid (b_step T1 hb2)
      clear hb2 R1 T1
      go_wp2
      go_ret2
      rw [HR.out, HP.out]
      exact RetLB.nil _ _ T2.out
  · have HQ := Lib.hid (redB_f h)
    have HV := Lib.hid (redV_f h)
    have HP := Lib.hid (show plOk b xs = false by unfold plOk; rw [HQ.out]; rfl)
    have HR := Lib.hid (show plR b xs = [] by unfold plR; rw [HP.out]; rfl)
    clear h
    go_enter Try.func27, Try.ntmps27
    go_wp2_with fail
    refine (i_redVal A xs c b _ hR (by omega)).mono ?_
    rw [HV.out]
    rintro e w1 ⟨rfl, hb1⟩
    have R1 := hR.below hb1
    have s1 := hb1.size
    have T1 := b_step (Below.refl _ _) hb1
    clear hb1 hR
    go_wp2_with fail
    refine (i_redOk A xs c b _ (R1.more s1) (by omega)).mono ?_
    rw [HQ.out]
    rintro e w2 ⟨rfl, hb2⟩
    have T2 := Lib.hid (b_step T1 hb2)
    clear hb2 R1 T1
    go_wp2
    go_ret2
    rw [HR.out, HP.out]
    exact RetLB.nil _ _ T2.out

set_option maxHeartbeats 1000000 in
theorem s_plain (A : Option Addr) (xs : List Int) (c : Nat) (b : Int) (w : World) (hR : RI w w.heap.size A xs) (hl : xs.length ≤ 1048576) :
    Calls Try.prog 26 #[.slice A xs.length c, .int .i64 b] w (RetLB w (plR b xs) (plOk b xs)) := by
  by_cases h : RedP b xs
  · have HQ := Lib.hid (redB_t h)
    have HDG := Lib.hid h.digits
    have hv := val_bd12 (b := b) (xs := xs) (by have := h.1; have := h.2.1; omega) h.2.2.1 h.digits
    have b3 := h.1
    have b16 := h.2.1
    have l12 := h.2.2.1
    obtain ⟨v, hvv⟩ : ∃ v, v = val b xs := ⟨_, rfl⟩
    rw [← hvv] at hv
    have HX := Lib.hid hvv
    clear h hvv
    by_cases h0 : 0 ≤ v
    · have HP := Lib.hid (show plOk b xs = true by unfold plOk; rw [HQ.out, ← HX.out]; simp [h0])
      have HR := Lib.hid (show plR b xs = digs b v by unfold plR; rw [HP.out, ← HX.out]; rfl)
      have v1 : v < 4611686018427387904 := by omega
      clear hv
      go_enter Try.func26, Try.ntmps26
      go_wp2_with fail
      refine (s_redOk A xs c b _ hR (by omega)).mono ?_
      rw [HQ.out]
      rintro e w1 ⟨rfl, hb1⟩
      have R1 := hR.below hb1
      have s1 := hb1.size
      have T1 := b_step (Below.refl _ _) hb1
      clear hb1 hR
      go_wp2_with fail
      refine (s_l18Value A xs c b _ (R1.more s1) (by omega) b16 l12 HDG.out).mono ?_
      rw [← HX.out]
      rintro e w2 ⟨rfl, rfl⟩
      go_wp2_with fail
      refine (s_l18Value A xs c b _ (R1.more s1) (by omega) b16 l12 HDG.out).mono ?_
      rw [← HX.out]
      rintro e w2 ⟨rfl, rfl⟩
      go_wp2_with fail
      refine (s_l02Digits v b _ h0 v1 (by omega) (by omega)).mono ?_
      intro e w3 h3
      obtain ⟨A3, c3, rfl, hO, hb3⟩ := h3.toLB T1
      clear h3 T1 R1
      go_wp2
      go_ret2
      rw [HR.out, HP.out]
      exact ⟨A3, c3, rfl, hO, hb3⟩
    · have HP := Lib.hid (show plOk b xs = false by unfold plOk; rw [HQ.out, ← HX.out]; simp [h0])
      have HR := Lib.hid (show plR b xs = [] by unfold plR; rw [HP.out]; rfl)
      clear hv
      go_enter Try.func26, Try.ntmps26
      go_wp2_with fail
      refine (s_redOk A xs c b _ hR (by omega)).mono ?_
      rw [HQ.out]
      rintro e w1 ⟨rfl, hb1⟩
      have R1 := hR.below hb1
      have s1 := hb1.size
      have T1 := Lib.hid (b_step (Below.refl _ _) hb1)
      clear hb1 hR
      go_wp2_with fail
      refine (s_l18Value A xs c b _ (R1.more s1) (by omega) b16 l12 HDG.out).mono ?_
      rw [← HX.out]
      rintro e w2 ⟨rfl, rfl⟩
      go_wp2
      go_ret2
      rw [HR.out, HP.out]
      exact RetLB.nil _ _ T1.out
  · have HQ := Lib.hid (redB_f h)
    have HP := Lib.hid (show plOk b xs = false by unfold plOk; rw [HQ.out]; rfl)
    have HR := Lib.hid (show plR b xs = [] by unfold plR; rw [HP.out]; rfl)
    clear h
    go_enter Try.func26, Try.ntmps26
    go_wp2_with fail
    refine (s_redOk A xs c b _ hR (by omega)).mono ?_
    rw [HQ.out]
    rintro e w1 ⟨rfl, hb1⟩
    have T1 := Lib.hid (b_step (Below.refl _ _) hb1)
    clear hb1
    go_wp2
    go_ret2
    rw [HR.out, HP.out]
    exact RetLB.nil _ _ T1.out
end Go.Proofs.Ytpjdmapfnojhnaa
