/- The walks of the laws GaussOk, NormOf, TurnGauss over the contracts. Conditions: none. -/
import Derived.Test.YthblbmihpgkanaaGaussBad
import Derived.Deep.RegionHeld3
import Derived.Deep.DeepCutAuto
namespace Go.Proofs.Ythblbmihpgkanaa
open Go.RowKit
set_option linter.unusedVariables false

theorem walk_gok (x y : Int) (_ : (Lit.int .i64 x).wf = true) (_ : (Lit.int .i64 y).wf = true) (w : World) :
    Calls Try.prog 3 #[.agg #[.int .i64 x, .int .i64 y]] w fun e w' => e = .returned (.bool true) ∧ Below w.heap.size w w' := by
  go_enter Try.func3, Try.ntmps3
  go_wp2_with (first | (go_at_call 14; refine (toGauss_any _ _ _).mono ?_; rintro e w1 ⟨rfl, c1, c2, c3, rfl⟩) | go_in)
  all_goals go_ret
  all_goals refine ⟨rfl, ?_⟩
  all_goals repeat (first | exact Below.refl _ _ | refine Below.alloc ?_ (by (try simp) <;> omega) _)

theorem walk_norm (x y : Int) (_ : (Lit.int .i64 x).wf = true) (_ : (Lit.int .i64 y).wf = true) (w : World) :
    Calls Try.prog 4 #[.agg #[.int .i64 x, .int .i64 y]] w fun e w' => e = .returned (.bool true) ∧ Below w.heap.size w w' := by
  go_enter Try.func4, Try.ntmps4
  go_wp2_with (first | (go_at_call 14; refine (toGauss_any _ _ _).mono ?_; rintro e w1 ⟨rfl, c1, c2, c3, rfl⟩) | go_in)
  all_goals go_ret
  all_goals refine ⟨rfl, ?_⟩
  all_goals repeat (first | exact Below.refl _ _ | refine Below.alloc ?_ (by (try simp) <;> omega) _)

theorem walk_turn_ok (x y : Int) (w : World) (h1 : -100000 ≤ x) (h2 : x ≤ 100000) (h3 : -100000 ≤ y) (h4 : y ≤ 100000) :
    Calls Try.prog 5 #[.agg #[.int .i64 x, .int .i64 y]] w fun e w' => e = .returned (.bool true) ∧ Below w.heap.size w w' := by
  go_enter Try.func5, Try.ntmps5
  go_wp2_with (first | (go_at_call 14; refine (toGauss_any _ _ _).mono ?_; rintro e w1 ⟨rfl, c1, c2, c3, rfl⟩) | (go_at_call 18; refine (spec_turn_ok _ _ _ h1 h2 h3 h4).mono ?_; rintro e w2 ⟨rfl, hbw2⟩; obtain ⟨hcw2, hfw2, _⟩ := bcell hbw2; have hzw20 : w.heap.size < w2.heap.size := (by have := hbw2.size; simp at this; omega); have HBw2 := Lib.hid hbw2; clear hbw2) | (go_at_call 19; refine (impl_turn_ok _ _ _ h1 h2 h3 h4).mono ?_; rintro e w3 ⟨rfl, hbw3⟩; obtain ⟨hcw3, hfw3, _⟩ := bcell hbw3; have hzw30 : w.heap.size < w3.heap.size := (by have := hbw3.size; simp at this; omega); have hzw31 : w2.heap.size < w3.heap.size := (by have := hbw3.size; simp at this; omega); have HBw3 := Lib.hid hbw3; clear hbw3) | go_in)
  go_ret
  refine ⟨rfl, ?_⟩
  have T2 : Below w.heap.size w w2 := Below.trans (by repeat (first | exact Below.refl _ _ | refine Below.alloc ?_ (by (try simp) <;> omega) _)) (Below.mono HBw2.out (by (try simp) <;> omega))
  have T3 : Below w.heap.size w w3 := Below.trans (by repeat (first | exact T2 | refine Below.alloc ?_ (by (try simp) <;> omega) _)) (Below.mono HBw3.out (by (try simp) <;> omega))
  repeat (first | exact T3 | refine Below.alloc ?_ (by (try simp) <;> omega) _)

theorem walk_turn_bad (x y : Int) (w : World) (HG : Hid (¬ gok x y)) :
    Calls Try.prog 5 #[.agg #[.int .i64 x, .int .i64 y]] w fun e w' => e = .returned (.bool true) ∧ Below w.heap.size w w' := by
  go_enter Try.func5, Try.ntmps5
  go_wp2_with (first | (go_at_call 14; refine (toGauss_any _ _ _).mono ?_; rintro e w1 ⟨rfl, c1, c2, c3, rfl⟩) | (go_at_call 18; refine (spec_turn_bad _ _ _ HG).mono ?_; rintro e w2 ⟨rfl, hbw2⟩; obtain ⟨hcw2, hfw2, _⟩ := bcell hbw2; have hzw20 : w.heap.size < w2.heap.size := (by have := hbw2.size; simp at this; omega); have HBw2 := Lib.hid hbw2; clear hbw2) | (go_at_call 19; refine (impl_turn_bad _ _ _ HG).mono ?_; rintro e w3 ⟨rfl, hbw3⟩; obtain ⟨hcw3, hfw3, _⟩ := bcell hbw3; have hzw30 : w.heap.size < w3.heap.size := (by have := hbw3.size; simp at this; omega); have hzw31 : w2.heap.size < w3.heap.size := (by have := hbw3.size; simp at this; omega); have HBw3 := Lib.hid hbw3; clear hbw3) | go_in)
  go_ret
  refine ⟨rfl, ?_⟩
  have T2 : Below w.heap.size w w2 := Below.trans (by repeat (first | exact Below.refl _ _ | refine Below.alloc ?_ (by (try simp) <;> omega) _)) (Below.mono HBw2.out (by (try simp) <;> omega))
  have T3 : Below w.heap.size w w3 := Below.trans (by repeat (first | exact T2 | refine Below.alloc ?_ (by (try simp) <;> omega) _)) (Below.mono HBw3.out (by (try simp) <;> omega))
  repeat (first | exact T3 | refine Below.alloc ?_ (by (try simp) <;> omega) _)

theorem walk_turn (x y : Int) (_ : (Lit.int .i64 x).wf = true) (_ : (Lit.int .i64 y).wf = true) (w : World) :
    Calls Try.prog 5 #[.agg #[.int .i64 x, .int .i64 y]] w fun e w' => e = .returned (.bool true) ∧ Below w.heap.size w w' := by
  by_cases hg : gok x y
  · exact walk_turn_ok x y w hg.1 hg.2.1 hg.2.2.1 hg.2.2.2
  · exact walk_turn_bad x y w hg

end Go.Proofs.Ythblbmihpgkanaa
