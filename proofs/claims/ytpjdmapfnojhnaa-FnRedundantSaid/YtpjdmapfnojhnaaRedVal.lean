/- Contracts of RedundantValue (program and reference). Conditions: lengths of at most 2^32. -/
import Derived.Test.YtpjdmapfnojhnaaRed
namespace Go.Proofs.Ytpjdmapfnojhnaa
open Go.RowKit
set_option linter.unusedVariables false
theorem RedP.digits {b : Int} {xs : List Int} (h : RedP b xs) : ∀ x ∈ xs, x.natAbs ≤ 15 := fun x hx => by
  have := allB_iff.1 h.2.2.2 x hx
  have := h.2.1
  omega
/-- What RedundantValue gives. -/
noncomputable def redV (b : Int) (xs : List Int) : Int := @ite Int (RedP b xs) (Classical.propDecidable _) (val b xs) 0
theorem redV_t {b : Int} {xs : List Int} (h : RedP b xs) : redV b xs = val b xs := by unfold redV; rw [if_pos h]
theorem redV_f {b : Int} {xs : List Int} (h : ¬ RedP b xs) : redV b xs = 0 := by unfold redV; rw [if_neg h]

theorem i_redVal (A : Option Addr) (xs : List Int) (c : Nat) (b : Int) (w : World) (hR : RI w w.heap.size A xs) (hl : xs.length ≤ 4294967296) :
    Calls Try.prog 19 #[.slice A xs.length c, .int .i64 b] w fun e w' => e = .returned (.int .i64 (redV b xs)) ∧ Below w.heap.size w w' := by
  by_cases h : RedP b xs
  · have HV := Lib.hid (redV_t h)
    have H := Lib.hid h
    obtain ⟨h1, h2, h3, _⟩ := h
    go_enter Try.func19, Try.ntmps19
    go_wp2_with fail
    refine (i_red_t A xs c b _ hR H.out).mono ?_
    rintro e w1 ⟨rfl, hb1⟩
    have R1 := (hR.below hb1).more hb1.size
    have HB := Lib.hid hb1
    clear hb1
    go_wp2_with fail
    refine (i_valueOf A xs c b _ R1 (by omega) h2 h3 (RedP.digits H.out)).mono ?_
    rintro e w2 ⟨rfl, rfl⟩
    go_wp2
    go_ret
    exact ⟨by rw [HV.out]; rfl, HB.out⟩
  · have HV := Lib.hid (redV_f h)
    have H := Lib.hid h
    clear h
    go_enter Try.func19, Try.ntmps19
    go_wp2_with fail
    refine (i_red_f A xs c b _ hR hl H.out).mono ?_
    rintro e w1 ⟨rfl, hb1⟩
    go_wp2
    go_ret
    exact ⟨by rw [HV.out]; rfl, hb1⟩

theorem s_redVal (A : Option Addr) (xs : List Int) (c : Nat) (b : Int) (w : World) (hR : RI w w.heap.size A xs) (hl : xs.length ≤ 4294967296) :
    Calls Try.prog 18 #[.slice A xs.length c, .int .i64 b] w fun e w' => e = .returned (.int .i64 (redV b xs)) ∧ Below w.heap.size w w' := by
  by_cases h : RedP b xs
  · have HV := Lib.hid (redV_t h)
    have H := Lib.hid h
    obtain ⟨h1, h2, h3, _⟩ := h
    go_enter Try.func18, Try.ntmps18
    go_wp2_with fail
    refine (s_red_t A xs c b _ hR H.out).mono ?_
    rintro e w1 ⟨rfl, hb1⟩
    have R1 := (hR.below hb1).more hb1.size
    have HB := Lib.hid hb1
    clear hb1
    go_wp2_with fail
    refine (s_l18Value A xs c b _ R1 (by omega) h2 h3 (RedP.digits H.out)).mono ?_
    rintro e w2 ⟨rfl, rfl⟩
    go_wp2
    go_ret
    exact ⟨by rw [HV.out]; rfl, HB.out⟩
  · have HV := Lib.hid (redV_f h)
    have H := Lib.hid h
    clear h
    go_enter Try.func18, Try.ntmps18
    go_wp2_with fail
    refine (s_red_f A xs c b _ hR hl H.out).mono ?_
    rintro e w1 ⟨rfl, hb1⟩
    go_wp2
    go_ret
    exact ⟨by rw [HV.out]; rfl, hb1⟩

noncomputable def redB (b : Int) (xs : List Int) : Bool := @decide (RedP b xs) (Classical.propDecidable _)
theorem redB_t {b : Int} {xs : List Int} (h : RedP b xs) : redB b xs = true := by unfold redB; exact @decide_eq_true _ (Classical.propDecidable _) h
theorem redB_f {b : Int} {xs : List Int} (h : ¬ RedP b xs) : redB b xs = false := by unfold redB; exact @decide_eq_false _ (Classical.propDecidable _) h
theorem i_redOk (A : Option Addr) (xs : List Int) (c : Nat) (b : Int) (w : World) (hR : RI w w.heap.size A xs) (hl : xs.length ≤ 4294967296) :
    Calls Try.prog 16 #[.slice A xs.length c, .int .i64 b] w fun e w' => e = .returned (.bool (redB b xs)) ∧ Below w.heap.size w w' := by
  by_cases h : RedP b xs
  · rw [redB_t h]; exact i_red_t A xs c b w hR h
  · rw [redB_f h]; exact i_red_f A xs c b w hR hl h
theorem s_redOk (A : Option Addr) (xs : List Int) (c : Nat) (b : Int) (w : World) (hR : RI w w.heap.size A xs) (hl : xs.length ≤ 4294967296) :
    Calls Try.prog 14 #[.slice A xs.length c, .int .i64 b] w fun e w' => e = .returned (.bool (redB b xs)) ∧ Below w.heap.size w w' := by
  by_cases h : RedP b xs
  · rw [redB_t h]; exact s_red_t A xs c b w hR h
  · rw [redB_f h]; exact s_red_f A xs c b w hR hl h
end Go.Proofs.Ytpjdmapfnojhnaa
