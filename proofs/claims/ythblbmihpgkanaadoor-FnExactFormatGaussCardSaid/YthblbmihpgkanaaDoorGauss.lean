/- Contracts of the small functions over Gauss and the walks of five laws (GaussOk, NormOf, TurnGauss, GaussAdd, GaussTimes). Conditions: none. -/
import Derived.Test.YthblbmihpgkanaaDoorBase
import Derived.Test.YthblbmihpgkanaaDoorRows
namespace Go.Proofs.YthblbmihpgkanaaDoor
open Go.RowKit

/-- The pair is in the chapter's range. -/
def gok (x y : Int) : Prop := -100000 ≤ x ∧ x ≤ 100000 ∧ -100000 ≤ y ∧ y ≤ 100000

theorem mul_bd (x u : Int) (h1 : -100000 ≤ x) (h2 : x ≤ 100000) (h3 : -100000 ≤ u) (h4 : u ≤ 100000) : -10000000000 ≤ x * u ∧ x * u ≤ 10000000000 := by
  have e : (x * u).natAbs ≤ 100000 * 100000 := by rw [Int.natAbs_mul]; exact Nat.mul_le_mul (by omega) (by omega)
  omega

theorem toGauss_any (x y : Int) (w : World) :
    Calls Tryd.prog 18 #[.agg #[.int .i64 x, .int .i64 y]] w fun e w' => e = .returned (.agg #[.int .i64 x, .int .i64 y]) ∧ ∃ c1 c2 c3 : Array Value, w' = ((w.alloc (.cells c1 40)).alloc (.cells c2 24)).alloc (.cells c3 24) := by
  go_enter Tryd.func18, Tryd.ntmps18
  go_wp2
  exact bodyPost_ret (v := .agg #[.int .i64 x, .int .i64 y]) (by simp [results, Tryd.results18, go_sem]) rfl ⟨rfl, _, _, _, rfl⟩

theorem impl_turn_ok (x y : Int) (w : World) (h1 : -100000 ≤ x) (h2 : x ≤ 100000) (h3 : -100000 ≤ y) (h4 : y ≤ 100000) :
    Calls Tryd.prog 12 #[.agg #[.int .i64 x, .int .i64 y]] w fun e w' => e = .returned (.agg #[.int .i64 (-y), .int .i64 x]) ∧ Below w.heap.size w w' := by
  go_enter Tryd.func12, Tryd.ntmps12
  go_wp2
  exact bodyPost_ret (v := .agg #[.int .i64 (-y), .int .i64 x]) (by simp [results, Tryd.results12, go_sem]) rfl ⟨rfl, by repeat (first | exact Below.refl _ _ | refine Below.alloc ?_ (by (try simp) <;> omega) _)⟩

theorem impl_turn_bad (x y : Int) (w : World) (HG : Hid (¬ gok x y)) :
    Calls Tryd.prog 12 #[.agg #[.int .i64 x, .int .i64 y]] w fun e w' => e = .returned (.agg #[.int .i64 x, .int .i64 y]) ∧ Below w.heap.size w w' := by
  go_enter Tryd.func12, Tryd.ntmps12
  go_wp2
  all_goals first | (exfalso; apply HG.out; refine ⟨?_, ?_, ?_, ?_⟩; all_goals (first | omega | (simp_all; done)); done) | (exact bodyPost_ret (v := .agg #[.int .i64 x, .int .i64 y]) (by simp [results, Tryd.results12, go_sem]) rfl ⟨rfl, by repeat (first | exact Below.refl _ _ | refine Below.alloc ?_ (by (try simp) <;> omega) _)⟩)

theorem impl_mul (x y u v : Int) (w : World) (h1 : -100000 ≤ x) (h2 : x ≤ 100000) (h3 : -100000 ≤ y) (h4 : y ≤ 100000) (g1 : -100000 ≤ u) (g2 : u ≤ 100000) (g3 : -100000 ≤ v) (g4 : v ≤ 100000) :
    Calls Tryd.prog 25 #[.agg #[.int .i64 x, .int .i64 y], .agg #[.int .i64 u, .int .i64 v]] w fun e w' => e = .returned (.agg #[.int .i64 (x * u - y * v), .int .i64 (x * v + y * u)]) ∧ ∃ c1 c2 c3 : Array Value, w' = ((w.alloc (.cells c1 24)).alloc (.cells c2 24)).alloc (.cells c3 24) := by
  obtain ⟨p0, q0⟩ := mul_bd x u (by omega) (by omega) (by omega) (by omega)
  obtain ⟨p1, q1⟩ := mul_bd y v (by omega) (by omega) (by omega) (by omega)
  obtain ⟨p2, q2⟩ := mul_bd x v (by omega) (by omega) (by omega) (by omega)
  obtain ⟨p3, q3⟩ := mul_bd y u (by omega) (by omega) (by omega) (by omega)
  go_enter Tryd.func25, Tryd.ntmps25
  go_wp2
  exact bodyPost_ret (v := .agg #[.int .i64 (x * u - y * v), .int .i64 (x * v + y * u)]) (by simp [results, Tryd.results25, go_sem]) rfl ⟨rfl, _, _, _, rfl⟩

theorem checked_ok (x y : Int) (w : World) (h1 : -100000 ≤ x) (h2 : x ≤ 100000) (h3 : -100000 ≤ y) (h4 : y ≤ 100000) :
    Calls Tryd.prog 24 #[.agg #[.int .i64 x, .int .i64 y]] w fun e w' => e = .returned (.tuple #[.agg #[.int .i64 x, .int .i64 y], .bool true]) ∧ ∃ c1 c2 c3 : Array Value, w' = ((w.alloc (.cells c1 24)).alloc (.cells c2 24)).alloc (.cells c3 24) := by
  go_enter Tryd.func24, Tryd.ntmps24
  go_wp2
  exact bodyPost_ret (v := .tuple #[.agg #[.int .i64 x, .int .i64 y], .bool true]) (by simp [results, Tryd.results24, go_sem]) rfl ⟨rfl, _, _, _, rfl⟩

theorem checked_bad (x y : Int) (w : World) (HG : Hid (¬ gok x y)) :
    Calls Tryd.prog 24 #[.agg #[.int .i64 x, .int .i64 y]] w fun e w' => e = .returned (.tuple #[.agg #[.int .i64 0, .int .i64 0], .bool false]) ∧ ∃ c1 c2 c3 : Array Value, w' = ((w.alloc (.cells c1 24)).alloc (.cells c2 24)).alloc (.cells c3 24) := by
  go_enter Tryd.func24, Tryd.ntmps24
  go_wp2
  all_goals first | (exfalso; apply HG.out; refine ⟨?_, ?_, ?_, ?_⟩; all_goals (first | omega | (simp_all; done)); done) | (exact bodyPost_ret (v := .tuple #[.agg #[.int .i64 0, .int .i64 0], .bool false]) (by simp [results, Tryd.results24, go_sem]) rfl ⟨rfl, _, _, _, rfl⟩)

theorem impl_add_ok (x y u v : Int) (w : World) (h1 : -100000 ≤ x) (h2 : x ≤ 100000) (h3 : -100000 ≤ y) (h4 : y ≤ 100000) (g1 : -100000 ≤ u) (g2 : u ≤ 100000) (g3 : -100000 ≤ v) (g4 : v ≤ 100000) (k1 : -100000 ≤ x + u) (k2 : x + u ≤ 100000) (k3 : -100000 ≤ y + v) (k4 : y + v ≤ 100000) :
    Calls Tryd.prog 9 #[.agg #[.int .i64 x, .int .i64 y], .agg #[.int .i64 u, .int .i64 v]] w fun e w' => e = .returned (.tuple #[.agg #[.int .i64 (x + u), .int .i64 (y + v)], .bool true]) ∧ Below w.heap.size w w' := by
  go_enter Tryd.func9, Tryd.ntmps9
  go_wp2_with (first | (go_at_call 24; refine (checked_ok _ _ _ k1 k2 k3 k4).mono ?_; rintro e w1 ⟨rfl, c1, c2, c3, rfl⟩) | go_in)
  exact bodyPost_ret (v := .tuple #[.agg #[.int .i64 (x + u), .int .i64 (y + v)], .bool true]) (by simp [results, Tryd.results9, go_sem]) rfl ⟨rfl, by repeat (first | exact Below.refl _ _ | refine Below.alloc ?_ (by (try simp) <;> omega) _)⟩

theorem impl_times_ok (x y u v : Int) (w : World) (h1 : -100000 ≤ x) (h2 : x ≤ 100000) (h3 : -100000 ≤ y) (h4 : y ≤ 100000) (g1 : -100000 ≤ u) (g2 : u ≤ 100000) (g3 : -100000 ≤ v) (g4 : v ≤ 100000) (k1 : -100000 ≤ x * u - y * v) (k2 : x * u - y * v ≤ 100000) (k3 : -100000 ≤ x * v + y * u) (k4 : x * v + y * u ≤ 100000) :
    Calls Tryd.prog 8 #[.agg #[.int .i64 x, .int .i64 y], .agg #[.int .i64 u, .int .i64 v]] w fun e w' => e = .returned (.tuple #[.agg #[.int .i64 (x * u - y * v), .int .i64 (x * v + y * u)], .bool true]) ∧ Below w.heap.size w w' := by
  obtain ⟨p0, q0⟩ := mul_bd x u (by omega) (by omega) (by omega) (by omega)
  obtain ⟨p1, q1⟩ := mul_bd y v (by omega) (by omega) (by omega) (by omega)
  obtain ⟨p2, q2⟩ := mul_bd x v (by omega) (by omega) (by omega) (by omega)
  obtain ⟨p3, q3⟩ := mul_bd y u (by omega) (by omega) (by omega) (by omega)
  go_enter Tryd.func8, Tryd.ntmps8
  go_wp2_with (first | (go_at_call 25; refine (impl_mul _ _ _ _ _ h1 h2 h3 h4 g1 g2 g3 g4).mono ?_; rintro e w1 ⟨rfl, c1, c2, c3, rfl⟩) | (go_at_call 24; refine (checked_ok _ _ _ k1 k2 k3 k4).mono ?_; rintro e w1 ⟨rfl, c1, c2, c3, rfl⟩) | go_in)
  exact bodyPost_ret (v := .tuple #[.agg #[.int .i64 (x * u - y * v), .int .i64 (x * v + y * u)], .bool true]) (by simp [results, Tryd.results8, go_sem]) rfl ⟨rfl, by repeat (first | exact Below.refl _ _ | refine Below.alloc ?_ (by (try simp) <;> omega) _)⟩

theorem spec_gok_ok (x y : Int) (w : World) (h1 : -100000 ≤ x) (h2 : x ≤ 100000) (h3 : -100000 ≤ y) (h4 : y ≤ 100000) :
    Calls Tryd.prog 29 #[.agg #[.int .i64 x, .int .i64 y]] w fun e w' => e = .returned (.bool true) ∧ ∃ c1 : Array Value, w' = w.alloc (.cells c1 24) := by
  go_enter Tryd.func29, Tryd.ntmps29
  go_wp2
  go_ret
  exact ⟨rfl, _, rfl⟩

theorem spec_gok_bad (x y : Int) (w : World) (HG : Hid (¬ gok x y)) :
    Calls Tryd.prog 29 #[.agg #[.int .i64 x, .int .i64 y]] w fun e w' => e = .returned (.bool false) ∧ ∃ c1 : Array Value, w' = w.alloc (.cells c1 24) := by
  go_enter Tryd.func29, Tryd.ntmps29
  go_wp2
  all_goals first | (exfalso; apply HG.out; refine ⟨?_, ?_, ?_, ?_⟩; all_goals (first | omega | (simp_all; done)); done) | (go_ret; exact ⟨rfl, _, rfl⟩) | (go_ret; refine ⟨?_, _, rfl⟩; have hy : ¬ y ≤ 100000 := (fun hh => HG.out ⟨by omega, by omega, by omega, hh⟩); simp [hy])

theorem impl_gok_ok (x y : Int) (w : World) (h1 : -100000 ≤ x) (h2 : x ≤ 100000) (h3 : -100000 ≤ y) (h4 : y ≤ 100000) :
    Calls Tryd.prog 11 #[.agg #[.int .i64 x, .int .i64 y]] w fun e w' => e = .returned (.bool true) ∧ ∃ c1 : Array Value, w' = w.alloc (.cells c1 24) := by
  go_enter Tryd.func11, Tryd.ntmps11
  go_wp2
  go_ret
  exact ⟨rfl, _, rfl⟩

theorem impl_gok_bad (x y : Int) (w : World) (HG : Hid (¬ gok x y)) :
    Calls Tryd.prog 11 #[.agg #[.int .i64 x, .int .i64 y]] w fun e w' => e = .returned (.bool false) ∧ ∃ c1 : Array Value, w' = w.alloc (.cells c1 24) := by
  go_enter Tryd.func11, Tryd.ntmps11
  go_wp2
  all_goals first | (exfalso; apply HG.out; refine ⟨?_, ?_, ?_, ?_⟩; all_goals (first | omega | (simp_all; done)); done) | (go_ret; exact ⟨rfl, _, rfl⟩) | (go_ret; refine ⟨?_, _, rfl⟩; have hy : ¬ y ≤ 100000 := (fun hh => HG.out ⟨by omega, by omega, by omega, hh⟩); simp [hy])

end Go.Proofs.YthblbmihpgkanaaDoor
