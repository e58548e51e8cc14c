/- Contracts of the small functions over Gauss and the walks of five laws (GaussOk, NormOf, TurnGauss, GaussAdd, GaussTimes). Conditions: none. -/
import Derived.Test.YthblbmihpgkanaaBase
import Derived.Test.YthblbmihpgkanaaRows
namespace Go.Proofs.Ythblbmihpgkanaa
open Go.RowKit

/-- The pair is in the chapter's range. -/
def gok (x y : Int) : Prop := -100000 ≤ x ∧ x ≤ 100000 ∧ -100000 ≤ y ∧ y ≤ 100000

theorem mul_bd (x u : Int) (h1 : -100000 ≤ x) (h2 : x ≤ 100000) (h3 : -100000 ≤ u) (h4 : u ≤ 100000) : -10000000000 ≤ x * u ∧ x * u ≤ 10000000000 := by
  have e : (x * u).natAbs ≤ 100000 * 100000 := by rw [Int.natAbs_mul]; exact Nat.mul_le_mul (by omega) (by omega)
  omega

theorem toGauss_any (x y : Int) (w : World) :
    Calls Try.prog 14 #[.agg #[.int .i64 x, .int .i64 y]] w fun e w' => e = .returned (.agg #[.int .i64 x, .int .i64 y]) ∧ ∃ c1 c2 c3 : Array Value, w' = ((w.alloc (.cells c1 23)).alloc (.cells c2 25)).alloc (.cells c3 25) := by
  go_enter Try.func14, Try.ntmps14
  go_wp2
  exact bodyPost_ret (v := .agg #[.int .i64 x, .int .i64 y]) (by simp [results, Try.results14, go_sem]) rfl ⟨rfl, _, _, _, rfl⟩

theorem spec_turn_ok (x y : Int) (w : World) (h1 : -100000 ≤ x) (h2 : x ≤ 100000) (h3 : -100000 ≤ y) (h4 : y ≤ 100000) :
    Calls Try.prog 18 #[.agg #[.int .i64 x, .int .i64 y]] w fun e w' => e = .returned (.agg #[.int .i64 (-y), .int .i64 x]) ∧ Below w.heap.size w w' := by
  go_enter Try.func18, Try.ntmps18
  go_wp2
  exact bodyPost_ret (v := .agg #[.int .i64 (-y), .int .i64 x]) (by simp [results, Try.results18, go_sem]) rfl ⟨rfl, by repeat (first | exact Below.refl _ _ | refine Below.alloc ?_ (by (try simp) <;> omega) _)⟩

theorem spec_turn_bad (x y : Int) (w : World) (HG : Hid (¬ gok x y)) :
    Calls Try.prog 18 #[.agg #[.int .i64 x, .int .i64 y]] w fun e w' => e = .returned (.agg #[.int .i64 x, .int .i64 y]) ∧ Below w.heap.size w w' := by
  go_enter Try.func18, Try.ntmps18
  go_wp2
  all_goals first | (exfalso; apply HG.out; refine ⟨?_, ?_, ?_, ?_⟩; all_goals (first | omega | (simp_all; done)); done) | (exact bodyPost_ret (v := .agg #[.int .i64 x, .int .i64 y]) (by simp [results, Try.results18, go_sem]) rfl ⟨rfl, by repeat (first | exact Below.refl _ _ | refine Below.alloc ?_ (by (try simp) <;> omega) _)⟩)

theorem impl_turn_ok (x y : Int) (w : World) (h1 : -100000 ≤ x) (h2 : x ≤ 100000) (h3 : -100000 ≤ y) (h4 : y ≤ 100000) :
    Calls Try.prog 19 #[.agg #[.int .i64 x, .int .i64 y]] w fun e w' => e = .returned (.agg #[.int .i64 (-y), .int .i64 x]) ∧ Below w.heap.size w w' := by
  go_enter Try.func19, Try.ntmps19
  go_wp2
  exact bodyPost_ret (v := .agg #[.int .i64 (-y), .int .i64 x]) (by simp [results, Try.results19, go_sem]) rfl ⟨rfl, by repeat (first | exact Below.refl _ _ | refine Below.alloc ?_ (by (try simp) <;> omega) _)⟩

theorem impl_turn_bad (x y : Int) (w : World) (HG : Hid (¬ gok x y)) :
    Calls Try.prog 19 #[.agg #[.int .i64 x, .int .i64 y]] w fun e w' => e = .returned (.agg #[.int .i64 x, .int .i64 y]) ∧ Below w.heap.size w w' := by
  go_enter Try.func19, Try.ntmps19
  go_wp2
  all_goals first | (exfalso; apply HG.out; refine ⟨?_, ?_, ?_, ?_⟩; all_goals (first | omega | (simp_all; done)); done) | (exact bodyPost_ret (v := .agg #[.int .i64 x, .int .i64 y]) (by simp [results, Try.results19, go_sem]) rfl ⟨rfl, by repeat (first | exact Below.refl _ _ | refine Below.alloc ?_ (by (try simp) <;> omega) _)⟩)

theorem spec_mul (x y u v : Int) (w : World) (h1 : -100000 ≤ x) (h2 : x ≤ 100000) (h3 : -100000 ≤ y) (h4 : y ≤ 100000) (g1 : -100000 ≤ u) (g2 : u ≤ 100000) (g3 : -100000 ≤ v) (g4 : v ≤ 100000) :
    Calls Try.prog 42 #[.agg #[.int .i64 x, .int .i64 y], .agg #[.int .i64 u, .int .i64 v]] w fun e w' => e = .returned (.agg #[.int .i64 (x * u - y * v), .int .i64 (x * v + y * u)]) ∧ ∃ c1 c2 c3 : Array Value, w' = ((w.alloc (.cells c1 25)).alloc (.cells c2 25)).alloc (.cells c3 25) := by
  obtain ⟨p0, q0⟩ := mul_bd x u (by omega) (by omega) (by omega) (by omega)
  obtain ⟨p1, q1⟩ := mul_bd y v (by omega) (by omega) (by omega) (by omega)
  obtain ⟨p2, q2⟩ := mul_bd x v (by omega) (by omega) (by omega) (by omega)
  obtain ⟨p3, q3⟩ := mul_bd y u (by omega) (by omega) (by omega) (by omega)
  go_enter Try.func42, Try.ntmps42
  go_wp2
  exact bodyPost_ret (v := .agg #[.int .i64 (x * u - y * v), .int .i64 (x * v + y * u)]) (by simp [results, Try.results42, go_sem]) rfl ⟨rfl, _, _, _, rfl⟩

theorem impl_mul (x y u v : Int) (w : World) (h1 : -100000 ≤ x) (h2 : x ≤ 100000) (h3 : -100000 ≤ y) (h4 : y ≤ 100000) (g1 : -100000 ≤ u) (g2 : u ≤ 100000) (g3 : -100000 ≤ v) (g4 : v ≤ 100000) :
    Calls Try.prog 43 #[.agg #[.int .i64 x, .int .i64 y], .agg #[.int .i64 u, .int .i64 v]] w fun e w' => e = .returned (.agg #[.int .i64 (x * u - y * v), .int .i64 (x * v + y * u)]) ∧ ∃ c1 c2 c3 : Array Value, w' = ((w.alloc (.cells c1 25)).alloc (.cells c2 25)).alloc (.cells c3 25) := by
  obtain ⟨p0, q0⟩ := mul_bd x u (by omega) (by omega) (by omega) (by omega)
  obtain ⟨p1, q1⟩ := mul_bd y v (by omega) (by omega) (by omega) (by omega)
  obtain ⟨p2, q2⟩ := mul_bd x v (by omega) (by omega) (by omega) (by omega)
  obtain ⟨p3, q3⟩ := mul_bd y u (by omega) (by omega) (by omega) (by omega)
  go_enter Try.func43, Try.ntmps43
  go_wp2
  exact bodyPost_ret (v := .agg #[.int .i64 (x * u - y * v), .int .i64 (x * v + y * u)]) (by simp [results, Try.results43, go_sem]) rfl ⟨rfl, _, _, _, rfl⟩

theorem checked_ok (x y : Int) (w : World) (h1 : -100000 ≤ x) (h2 : x ≤ 100000) (h3 : -100000 ≤ y) (h4 : y ≤ 100000) :
    Calls Try.prog 41 #[.agg #[.int .i64 x, .int .i64 y]] w fun e w' => e = .returned (.tuple #[.agg #[.int .i64 x, .int .i64 y], .bool true]) ∧ ∃ c1 c2 c3 : Array Value, w' = ((w.alloc (.cells c1 25)).alloc (.cells c2 25)).alloc (.cells c3 25) := by
  go_enter Try.func41, Try.ntmps41
  go_wp2
  exact bodyPost_ret (v := .tuple #[.agg #[.int .i64 x, .int .i64 y], .bool true]) (by simp [results, Try.results41, go_sem]) rfl ⟨rfl, _, _, _, rfl⟩

theorem checked_bad (x y : Int) (w : World) (HG : Hid (¬ gok x y)) :
    Calls Try.prog 41 #[.agg #[.int .i64 x, .int .i64 y]] w fun e w' => e = .returned (.tuple #[.agg #[.int .i64 0, .int .i64 0], .bool false]) ∧ ∃ c1 c2 c3 : Array Value, w' = ((w.alloc (.cells c1 25)).alloc (.cells c2 25)).alloc (.cells c3 25) := by
  go_enter Try.func41, Try.ntmps41
  go_wp2
  all_goals first | (exfalso; apply HG.out; refine ⟨?_, ?_, ?_, ?_⟩; all_goals (first | omega | (simp_all; done)); done) | (exact bodyPost_ret (v := .tuple #[.agg #[.int .i64 0, .int .i64 0], .bool false]) (by simp [results, Try.results41, go_sem]) rfl ⟨rfl, _, _, _, rfl⟩)

theorem spec_add_ok (x y u v : Int) (w : World) (h1 : -100000 ≤ x) (h2 : x ≤ 100000) (h3 : -100000 ≤ y) (h4 : y ≤ 100000) (g1 : -100000 ≤ u) (g2 : u ≤ 100000) (g3 : -100000 ≤ v) (g4 : v ≤ 100000) (k1 : -100000 ≤ x + u) (k2 : x + u ≤ 100000) (k3 : -100000 ≤ y + v) (k4 : y + v ≤ 100000) :
    Calls Try.prog 21 #[.agg #[.int .i64 x, .int .i64 y], .agg #[.int .i64 u, .int .i64 v]] w fun e w' => e = .returned (.tuple #[.agg #[.int .i64 (x + u), .int .i64 (y + v)], .bool true]) ∧ Below w.heap.size w w' := by
  go_enter Try.func21, Try.ntmps21
  go_wp2_with (first | go_in)
  exact bodyPost_ret (v := .tuple #[.agg #[.int .i64 (x + u), .int .i64 (y + v)], .bool true]) (by simp [results, Try.results21, go_sem]) rfl ⟨rfl, by repeat (first | exact Below.refl _ _ | refine Below.alloc ?_ (by (try simp) <;> omega) _)⟩

theorem spec_times_ok (x y u v : Int) (w : World) (h1 : -100000 ≤ x) (h2 : x ≤ 100000) (h3 : -100000 ≤ y) (h4 : y ≤ 100000) (g1 : -100000 ≤ u) (g2 : u ≤ 100000) (g3 : -100000 ≤ v) (g4 : v ≤ 100000) (k1 : -100000 ≤ x * u - y * v) (k2 : x * u - y * v ≤ 100000) (k3 : -100000 ≤ x * v + y * u) (k4 : x * v + y * u ≤ 100000) :
    Calls Try.prog 23 #[.agg #[.int .i64 x, .int .i64 y], .agg #[.int .i64 u, .int .i64 v]] w fun e w' => e = .returned (.tuple #[.agg #[.int .i64 (x * u - y * v), .int .i64 (x * v + y * u)], .bool true]) ∧ Below w.heap.size w w' := by
  obtain ⟨p0, q0⟩ := mul_bd x u (by omega) (by omega) (by omega) (by omega)
  obtain ⟨p1, q1⟩ := mul_bd y v (by omega) (by omega) (by omega) (by omega)
  obtain ⟨p2, q2⟩ := mul_bd x v (by omega) (by omega) (by omega) (by omega)
  obtain ⟨p3, q3⟩ := mul_bd y u (by omega) (by omega) (by omega) (by omega)
  go_enter Try.func23, Try.ntmps23
  go_wp2_with (first | (go_at_call 42; refine (spec_mul _ _ _ _ _ h1 h2 h3 h4 g1 g2 g3 g4).mono ?_; rintro e w1 ⟨rfl, c1, c2, c3, rfl⟩) | go_in)
  exact bodyPost_ret (v := .tuple #[.agg #[.int .i64 (x * u - y * v), .int .i64 (x * v + y * u)], .bool true]) (by simp [results, Try.results23, go_sem]) rfl ⟨rfl, by repeat (first | exact Below.refl _ _ | refine Below.alloc ?_ (by (try simp) <;> omega) _)⟩

theorem impl_add_ok (x y u v : Int) (w : World) (h1 : -100000 ≤ x) (h2 : x ≤ 100000) (h3 : -100000 ≤ y) (h4 : y ≤ 100000) (g1 : -100000 ≤ u) (g2 : u ≤ 100000) (g3 : -100000 ≤ v) (g4 : v ≤ 100000) (k1 : -100000 ≤ x + u) (k2 : x + u ≤ 100000) (k3 : -100000 ≤ y + v) (k4 : y + v ≤ 100000) :
    Calls Try.prog 22 #[.agg #[.int .i64 x, .int .i64 y], .agg #[.int .i64 u, .int .i64 v]] w fun e w' => e = .returned (.tuple #[.agg #[.int .i64 (x + u), .int .i64 (y + v)], .bool true]) ∧ Below w.heap.size w w' := by
  go_enter Try.func22, Try.ntmps22
  go_wp2_with (first | (go_at_call 41; refine (checked_ok _ _ _ k1 k2 k3 k4).mono ?_; rintro e w1 ⟨rfl, c1, c2, c3, rfl⟩) | go_in)
  exact bodyPost_ret (v := .tuple #[.agg #[.int .i64 (x + u), .int .i64 (y + v)], .bool true]) (by simp [results, Try.results22, go_sem]) rfl ⟨rfl, by repeat (first | exact Below.refl _ _ | refine Below.alloc ?_ (by (try simp) <;> omega) _)⟩

theorem impl_times_ok (x y u v : Int) (w : World) (h1 : -100000 ≤ x) (h2 : x ≤ 100000) (h3 : -100000 ≤ y) (h4 : y ≤ 100000) (g1 : -100000 ≤ u) (g2 : u ≤ 100000) (g3 : -100000 ≤ v) (g4 : v ≤ 100000) (k1 : -100000 ≤ x * u - y * v) (k2 : x * u - y * v ≤ 100000) (k3 : -100000 ≤ x * v + y * u) (k4 : x * v + y * u ≤ 100000) :
    Calls Try.prog 24 #[.agg #[.int .i64 x, .int .i64 y], .agg #[.int .i64 u, .int .i64 v]] w fun e w' => e = .returned (.tuple #[.agg #[.int .i64 (x * u - y * v), .int .i64 (x * v + y * u)], .bool true]) ∧ Below w.heap.size w w' := by
  obtain ⟨p0, q0⟩ := mul_bd x u (by omega) (by omega) (by omega) (by omega)
  obtain ⟨p1, q1⟩ := mul_bd y v (by omega) (by omega) (by omega) (by omega)
  obtain ⟨p2, q2⟩ := mul_bd x v (by omega) (by omega) (by omega) (by omega)
  obtain ⟨p3, q3⟩ := mul_bd y u (by omega) (by omega) (by omega) (by omega)
  go_enter Try.func24, Try.ntmps24
  go_wp2_with (first | (go_at_call 43; refine (impl_mul _ _ _ _ _ h1 h2 h3 h4 g1 g2 g3 g4).mono ?_; rintro e w1 ⟨rfl, c1, c2, c3, rfl⟩) | (go_at_call 41; refine (checked_ok _ _ _ k1 k2 k3 k4).mono ?_; rintro e w1 ⟨rfl, c1, c2, c3, rfl⟩) | go_in)
  exact bodyPost_ret (v := .tuple #[.agg #[.int .i64 (x * u - y * v), .int .i64 (x * v + y * u)], .bool true]) (by simp [results, Try.results24, go_sem]) rfl ⟨rfl, by repeat (first | exact Below.refl _ _ | refine Below.alloc ?_ (by (try simp) <;> omega) _)⟩

theorem spec_gok_ok (x y : Int) (w : World) (h1 : -100000 ≤ x) (h2 : x ≤ 100000) (h3 : -100000 ≤ y) (h4 : y ≤ 100000) :
    Calls Try.prog 13 #[.agg #[.int .i64 x, .int .i64 y]] w fun e w' => e = .returned (.bool true) ∧ ∃ c1 : Array Value, w' = w.alloc (.cells c1 25) := by
  go_enter Try.func13, Try.ntmps13
  go_wp2
  go_ret
  exact ⟨rfl, _, rfl⟩

theorem spec_gok_bad (x y : Int) (w : World) (HG : Hid (¬ gok x y)) :
    Calls Try.prog 13 #[.agg #[.int .i64 x, .int .i64 y]] w fun e w' => e = .returned (.bool false) ∧ ∃ c1 : Array Value, w' = w.alloc (.cells c1 25) := by
  go_enter Try.func13, Try.ntmps13
  go_wp2
  all_goals first | (exfalso; apply HG.out; refine ⟨?_, ?_, ?_, ?_⟩; all_goals (first | omega | (simp_all; done)); done) | (go_ret; exact ⟨rfl, _, rfl⟩) | (go_ret; refine ⟨?_, _, rfl⟩; have hy : ¬ y ≤ 100000 := (fun hh => HG.out ⟨by omega, by omega, by omega, hh⟩); simp [hy])

theorem impl_gok_ok (x y : Int) (w : World) (h1 : -100000 ≤ x) (h2 : x ≤ 100000) (h3 : -100000 ≤ y) (h4 : y ≤ 100000) :
    Calls Try.prog 15 #[.agg #[.int .i64 x, .int .i64 y]] w fun e w' => e = .returned (.bool true) ∧ ∃ c1 : Array Value, w' = w.alloc (.cells c1 25) := by
  go_enter Try.func15, Try.ntmps15
  go_wp2
  go_ret
  exact ⟨rfl, _, rfl⟩

theorem impl_gok_bad (x y : Int) (w : World) (HG : Hid (¬ gok x y)) :
    Calls Try.prog 15 #[.agg #[.int .i64 x, .int .i64 y]] w fun e w' => e = .returned (.bool false) ∧ ∃ c1 : Array Value, w' = w.alloc (.cells c1 25) := by
  go_enter Try.func15, Try.ntmps15
  go_wp2
  all_goals first | (exfalso; apply HG.out; refine ⟨?_, ?_, ?_, ?_⟩; all_goals (first | omega | (simp_all; done)); done) | (go_ret; exact ⟨rfl, _, rfl⟩) | (go_ret; refine ⟨?_, _, rfl⟩; have hy : ¬ y ≤ 100000 := (fun hh => HG.out ⟨by omega, by omega, by omega, hh⟩); simp [hy])

end Go.Proofs.Ythblbmihpgkanaa
