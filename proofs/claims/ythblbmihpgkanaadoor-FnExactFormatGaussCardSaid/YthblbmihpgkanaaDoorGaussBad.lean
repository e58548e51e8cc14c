/- Contracts of GaussAdd and GaussTimes outside the range. Conditions: none. -/
import Derived.Test.YthblbmihpgkanaaDoorGauss
namespace Go.Proofs.YthblbmihpgkanaaDoor
open Go.RowKit

theorem impl_add_badA (x y u v : Int) (w : World) (HG : Hid (¬ gok x y)) :
    Calls Tryd.prog 9 #[.agg #[.int .i64 x, .int .i64 y], .agg #[.int .i64 u, .int .i64 v]] w fun e w' => e = .returned (.tuple #[.agg #[.int .i64 0, .int .i64 0], .bool false]) ∧ Below w.heap.size w w' := by
  go_enter Tryd.func9, Tryd.ntmps9
  go_wp2_with (first | (go_at_call 11; (with_reducible refine (impl_gok_bad x y _ HG).mono ?_); rintro e w1 ⟨rfl, c1, rfl⟩) | go_in)
  exact bodyPost_ret (v := .tuple #[.agg #[.int .i64 0, .int .i64 0], .bool false]) (by simp [results, Tryd.results9, go_sem]) rfl ⟨rfl, by repeat (first | exact Below.refl _ _ | refine Below.alloc ?_ (by (try simp) <;> omega) _)⟩

theorem impl_add_badB (x y u v : Int) (w : World) (h1 : -100000 ≤ x) (h2 : x ≤ 100000) (h3 : -100000 ≤ y) (h4 : y ≤ 100000) (HG : Hid (¬ gok u v)) :
    Calls Tryd.prog 9 #[.agg #[.int .i64 x, .int .i64 y], .agg #[.int .i64 u, .int .i64 v]] w fun e w' => e = .returned (.tuple #[.agg #[.int .i64 0, .int .i64 0], .bool false]) ∧ Below w.heap.size w w' := by
  go_enter Tryd.func9, Tryd.ntmps9
  go_wp2_with (first | (go_at_call 11; (with_reducible refine (impl_gok_ok x y _ h1 h2 h3 h4).mono ?_); rintro e w1 ⟨rfl, c1, rfl⟩) | (go_at_call 11; (with_reducible refine (impl_gok_bad u v _ HG).mono ?_); rintro e w1 ⟨rfl, c1, rfl⟩))
  exact bodyPost_ret (v := .tuple #[.agg #[.int .i64 0, .int .i64 0], .bool false]) (by simp [results, Tryd.results9, go_sem]) rfl ⟨rfl, by repeat (first | exact Below.refl _ _ | refine Below.alloc ?_ (by (try simp) <;> omega) _)⟩

theorem impl_add_badC (x y u v : Int) (w : World) (h1 : -100000 ≤ x) (h2 : x ≤ 100000) (h3 : -100000 ≤ y) (h4 : y ≤ 100000) (g1 : -100000 ≤ u) (g2 : u ≤ 100000) (g3 : -100000 ≤ v) (g4 : v ≤ 100000) (HG : Hid (¬ gok (x + u) (y + v))) :
    Calls Tryd.prog 9 #[.agg #[.int .i64 x, .int .i64 y], .agg #[.int .i64 u, .int .i64 v]] w fun e w' => e = .returned (.tuple #[.agg #[.int .i64 0, .int .i64 0], .bool false]) ∧ Below w.heap.size w w' := by
  go_enter Tryd.func9, Tryd.ntmps9
  go_wp2_with (first | (go_at_call 11; (with_reducible refine (impl_gok_ok x y _ h1 h2 h3 h4).mono ?_); rintro e w1 ⟨rfl, c1, rfl⟩) | (go_at_call 11; (with_reducible refine (impl_gok_ok u v _ g1 g2 g3 g4).mono ?_); rintro e w1 ⟨rfl, c1, rfl⟩) | (go_at_call 24; refine (checked_bad _ _ _ HG).mono ?_; rintro e w1 ⟨rfl, c1, c2, c3, rfl⟩))
  exact bodyPost_ret (v := .tuple #[.agg #[.int .i64 0, .int .i64 0], .bool false]) (by simp [results, Tryd.results9, go_sem]) rfl ⟨rfl, by repeat (first | exact Below.refl _ _ | refine Below.alloc ?_ (by (try simp) <;> omega) _)⟩

theorem impl_times_badA (x y u v : Int) (w : World) (HG : Hid (¬ gok x y)) :
    Calls Tryd.prog 8 #[.agg #[.int .i64 x, .int .i64 y], .agg #[.int .i64 u, .int .i64 v]] w fun e w' => e = .returned (.tuple #[.agg #[.int .i64 0, .int .i64 0], .bool false]) ∧ Below w.heap.size w w' := by
  go_enter Tryd.func8, Tryd.ntmps8
  go_wp2_with (first | (go_at_call 11; (with_reducible refine (impl_gok_bad x y _ HG).mono ?_); rintro e w1 ⟨rfl, c1, rfl⟩) | go_in)
  exact bodyPost_ret (v := .tuple #[.agg #[.int .i64 0, .int .i64 0], .bool false]) (by simp [results, Tryd.results8, go_sem]) rfl ⟨rfl, by repeat (first | exact Below.refl _ _ | refine Below.alloc ?_ (by (try simp) <;> omega) _)⟩

theorem impl_times_badB (x y u v : Int) (w : World) (h1 : -100000 ≤ x) (h2 : x ≤ 100000) (h3 : -100000 ≤ y) (h4 : y ≤ 100000) (HG : Hid (¬ gok u v)) :
    Calls Tryd.prog 8 #[.agg #[.int .i64 x, .int .i64 y], .agg #[.int .i64 u, .int .i64 v]] w fun e w' => e = .returned (.tuple #[.agg #[.int .i64 0, .int .i64 0], .bool false]) ∧ Below w.heap.size w w' := by
  go_enter Tryd.func8, Tryd.ntmps8
  go_wp2_with (first | (go_at_call 11; (with_reducible refine (impl_gok_ok x y _ h1 h2 h3 h4).mono ?_); rintro e w1 ⟨rfl, c1, rfl⟩) | (go_at_call 11; (with_reducible refine (impl_gok_bad u v _ HG).mono ?_); rintro e w1 ⟨rfl, c1, rfl⟩))
  exact bodyPost_ret (v := .tuple #[.agg #[.int .i64 0, .int .i64 0], .bool false]) (by simp [results, Tryd.results8, go_sem]) rfl ⟨rfl, by repeat (first | exact Below.refl _ _ | refine Below.alloc ?_ (by (try simp) <;> omega) _)⟩

theorem impl_times_badC (x y u v : Int) (w : World) (h1 : -100000 ≤ x) (h2 : x ≤ 100000) (h3 : -100000 ≤ y) (h4 : y ≤ 100000) (g1 : -100000 ≤ u) (g2 : u ≤ 100000) (g3 : -100000 ≤ v) (g4 : v ≤ 100000) (HG : Hid (¬ gok (x * u - y * v) (x * v + y * u))) :
    Calls Tryd.prog 8 #[.agg #[.int .i64 x, .int .i64 y], .agg #[.int .i64 u, .int .i64 v]] w fun e w' => e = .returned (.tuple #[.agg #[.int .i64 0, .int .i64 0], .bool false]) ∧ Below w.heap.size w w' := by
  obtain ⟨p0, q0⟩ := mul_bd x u (by omega) (by omega) (by omega) (by omega)
  obtain ⟨p1, q1⟩ := mul_bd y v (by omega) (by omega) (by omega) (by omega)
  obtain ⟨p2, q2⟩ := mul_bd x v (by omega) (by omega) (by omega) (by omega)
  obtain ⟨p3, q3⟩ := mul_bd y u (by omega) (by omega) (by omega) (by omega)
  go_enter Tryd.func8, Tryd.ntmps8
  go_wp2_with (first | (go_at_call 11; (with_reducible refine (impl_gok_ok x y _ h1 h2 h3 h4).mono ?_); rintro e w1 ⟨rfl, c1, rfl⟩) | (go_at_call 11; (with_reducible refine (impl_gok_ok u v _ g1 g2 g3 g4).mono ?_); rintro e w1 ⟨rfl, c1, rfl⟩) | (go_at_call 25; refine (impl_mul _ _ _ _ _ h1 h2 h3 h4 g1 g2 g3 g4).mono ?_; rintro e w1 ⟨rfl, c1, c2, c3, rfl⟩) | (go_at_call 24; refine (checked_bad _ _ _ HG).mono ?_; rintro e w1 ⟨rfl, c1, c2, c3, rfl⟩))
  exact bodyPost_ret (v := .tuple #[.agg #[.int .i64 0, .int .i64 0], .bool false]) (by simp [results, Tryd.results8, go_sem]) rfl ⟨rfl, by repeat (first | exact Below.refl _ _ | refine Below.alloc ?_ (by (try simp) <;> omega) _)⟩

end Go.Proofs.YthblbmihpgkanaaDoor
