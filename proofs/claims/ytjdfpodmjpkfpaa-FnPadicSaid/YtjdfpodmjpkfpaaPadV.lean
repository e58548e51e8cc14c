/- Contracts of l02Value and PadicValue (program and reference). Conditions: lengths of at most 2^32. -/
import Derived.Test.YtjdfpodmjpkfpaaPad
import Derived.Test.YtjdfpodmjpkfpaaValI
namespace Go.Proofs.Ytjdfpodmjpkfpaa
open Go.RowKit
set_option linter.unusedVariables false

theorem val_bd8 {b : Int} (hb : b.natAbs ≤ 16) {xs : List Int} (hl : xs.length ≤ 8) (h : ∀ x ∈ xs, x.natAbs ≤ 15) : (val b xs).natAbs ≤ 4294967295 := by
  have h1 := val_bd hb xs h
  have h2 : 16 ^ xs.length ≤ 16 ^ 8 := Nat.pow_le_pow_right (by omega) hl
  have h3 : 16 ^ 8 = 4294967296 := by decide
  omega
theorem PadP.digits {p : Int} {xs : List Int} (h : PadP p xs) : ∀ x ∈ xs, x.natAbs ≤ 15 := fun x hx => by
  have := allB_iff.1 h.2.2.2 x hx
  have := primeB_bd h.1
  omega

set_option maxHeartbeats 1000000 in
theorem s_l02Value (A : Option Addr) (xs : List Int) (c : Nat) (b : Int) (w : World) (hR : RI w w.heap.size A xs) (hb : 2 ≤ b) (hb2 : b ≤ 16) (hl : xs.length ≤ 8) (hd : ∀ x ∈ xs, x.natAbs ≤ 15) :
    Calls Try.prog 60 #[.slice A xs.length c, .int .i64 b] w fun e w' => e = .returned (.int .i64 (val b xs)) ∧ w = w' := by
  go_enter Try.func60, Try.ntmps60
  have HD := Lib.hid hd
  clear hd
  go_wp2
  go_loop [5, 6] (fun n i => ∃ k : Nat, k ≤ xs.length ∧ i = .int .i64 ((k : Int) - 1) ∧ n = .int .i64 (val b (xs.drop k))) (fun _ i => (intOf i + 1).toNat)
  case atStart => exact ⟨xs.length, Nat.le_refl _, rfl, by simp [val]⟩
  case round =>
    obtain ⟨k, hk, rfl, rfl⟩ := hrel
    rcases Nat.eq_zero_or_pos k with rfl | hp
    · go_wp2
      go_ret
      exact ⟨rfl, rfl⟩
    · obtain ⟨q, rfl⟩ : ∃ q, k = q + 1 := ⟨k - 1, by omega⟩
      obtain ⟨b0, off, hA, hb0, hc⟩ := hR.at_ (k := q) (by omega)
      subst hA
      have HR := Lib.hid hR
      clear hR
      obtain ⟨d, hd⟩ : ∃ d, d = xs.getD q 0 := ⟨_, rfl⟩
      obtain ⟨v, hv⟩ : ∃ v, v = val b (xs.drop (q + 1)) := ⟨_, rfl⟩
      have d1 : d.natAbs ≤ 15 := by rw [hd]; exact HD.out _ (getD_mem (by omega))
      have v1 : v.natAbs ≤ 4294967295 := by rw [hv]; exact val_bd8 (by omega) (by simp; omega) fun x hx => HD.out x (List.mem_of_mem_drop hx)
      have p1 := mul_bd16 (b := b) v1 (by omega)
      have HV := Lib.hid ((val_drop (b := b) (xs := xs) (q := q) (by omega)).trans (by rw [← hv, ← hd]))
      have d2 : -15 ≤ d := by omega
      have d3 : d ≤ 15 := by omega
      have p2 : -68719476720 ≤ v * b := by omega
      have p3 : v * b ≤ 68719476720 := by omega
      rw [← hd] at hc
      rw [← hv]
      clear hd hv d1 v1 p1
      have e : ((q + 1 : Nat) : Int) - 1 = q := by omega
      rw [e]
      clear e
      go_wp2
      go_round
      case rel => exact ⟨q, by omega, rfl, by rw [HV.out]⟩
      case measure => simp [intOf]

/-- What PadicValue gives. -/
noncomputable def padV (p : Int) (xs : List Int) : Int := @ite Int (PadP p xs) (Classical.propDecidable _) (val p xs) (-1)
theorem padV_t {b : Int} {xs : List Int} (h : PadP b xs) : padV b xs = val b xs := by unfold padV; rw [if_pos h]
theorem padV_f {b : Int} {xs : List Int} (h : ¬ PadP b xs) : padV b xs = -1 := by unfold padV; rw [if_neg h]

set_option maxHeartbeats 1000000 in
theorem i_padVal (A : Option Addr) (xs : List Int) (c : Nat) (p : Int) (w : World) (hR : RI w w.heap.size A xs) (hl : xs.length ≤ 4294967296) :
    Calls Try.prog 27 #[.slice A xs.length c, .int .i64 p] w fun e w' => e = .returned (.int .i64 (padV p xs)) ∧ Below w.heap.size w w' := by
  by_cases h : PadP p xs
  · have HQ := Lib.hid (padB_t h)
    have HV := Lib.hid (padV_t h)
    have HDG := Lib.hid h.digits
    obtain ⟨p1, p2⟩ := primeB_bd h.1
    have n2 := h.2.2.1
    clear h
    go_enter Try.func27, Try.ntmps27
    go_wp2_with fail
    refine (i_padOk A xs c p _ hR hl).mono ?_
    rw [HQ.out]
    rintro e w1 ⟨rfl, hb1⟩
    have R1 := (hR.below hb1).more hb1.size
    have T1 := b_step (Below.refl _ _) hb1
    clear hb1 hR
    go_wp2_with fail
    refine (i_valueOf A xs c p _ R1 p1 (by omega) (by omega) HDG.out).mono ?_
    rintro e w2 ⟨rfl, rfl⟩
    go_wp2
    go_ret
    exact ⟨by rw [HV.out]; rfl, T1⟩
  · have HQ := Lib.hid (padB_f h)
    have HV := Lib.hid (padV_f h)
    clear h
    go_enter Try.func27, Try.ntmps27
    go_wp2_with fail
    refine (i_padOk A xs c p _ hR hl).mono ?_
    rw [HQ.out]
    rintro e w1 ⟨rfl, hb1⟩
    go_wp2
    go_ret
    exact ⟨by rw [HV.out]; rfl, hb1⟩

set_option maxHeartbeats 1000000 in
theorem s_padVal (A : Option Addr) (xs : List Int) (c : Nat) (p : Int) (w : World) (hR : RI w w.heap.size A xs) (hl : xs.length ≤ 4294967296) :
    Calls Try.prog 32 #[.slice A xs.length c, .int .i64 p] w fun e w' => e = .returned (.int .i64 (padV p xs)) ∧ Below w.heap.size w w' := by
  by_cases h : PadP p xs
  · have HQ := Lib.hid (padB_t h)
    have HV := Lib.hid (padV_t h)
    have HDG := Lib.hid h.digits
    obtain ⟨p1, p2⟩ := primeB_bd h.1
    have n2 := h.2.2.1
    clear h
    go_enter Try.func32, Try.ntmps32
    go_wp2_with fail
    refine (s_padOk A xs c p _ hR hl).mono ?_
    rw [HQ.out]
    rintro e w1 ⟨rfl, hb1⟩
    have R1 := (hR.below hb1).more hb1.size
    have T1 := b_step (Below.refl _ _) hb1
    clear hb1 hR
    go_wp2_with fail
    refine (s_l02Value A xs c p _ R1 p1 (by omega) n2 HDG.out).mono ?_
    rintro e w2 ⟨rfl, rfl⟩
    go_wp2
    go_ret
    exact ⟨by rw [HV.out]; rfl, T1⟩
  · have HQ := Lib.hid (padB_f h)
    have HV := Lib.hid (padV_f h)
    clear h
    go_enter Try.func32, Try.ntmps32
    go_wp2_with fail
    refine (s_padOk A xs c p _ hR hl).mono ?_
    rw [HQ.out]
    rintro e w1 ⟨rfl, hb1⟩
    go_wp2
    go_ret
    exact ⟨by rw [HV.out]; rfl, hb1⟩
end Go.Proofs.Ytjdfpodmjpkfpaa
