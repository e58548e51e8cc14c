/- The walks of the law GaussTimes over the contracts. Conditions: none. -/
import Derived.Test.YthblbmihpgkanaaGaussBad
import Derived.Deep.RegionHeld3
import Derived.Deep.DeepCutAuto
namespace Go.Proofs.Ythblbmihpgkanaa
open Go.RowKit
set_option linter.unusedVariables false

set_option maxHeartbeats 1000000 in
theorem walk_times_ok (x y u v : Int) (w : World) (h1 : -100000 ≤ x) (h2 : x ≤ 100000) (h3 : -100000 ≤ y) (h4 : y ≤ 100000) (g1 : -100000 ≤ u) (g2 : u ≤ 100000) (g3 : -100000 ≤ v) (g4 : v ≤ 100000) (k1 : -100000 ≤ x * u - y * v) (k2 : x * u - y * v ≤ 100000) (k3 : -100000 ≤ x * v + y * u) (k4 : x * v + y * u ≤ 100000) :
    Calls Try.prog 7 #[.agg #[.int .i64 x, .int .i64 y], .agg #[.int .i64 u, .int .i64 v]] w fun e w' => e = .returned (.bool true) ∧ Below w.heap.size w w' := by
  go_enter Try.func7, Try.ntmps7
  go_upto_region 1 with fail
  go_cut [5, 6] (fun s5 s6 wx => ∃ g' : Nat, s5 = .pointer (some ⟨g', 0, none⟩) ∧ s6 = .bool true ∧ w.heap.size < wx.heap.size ∧ w.heap.size + 1 < wx.heap.size ∧ g' < wx.heap.size ∧ wx.cell? ⟨g', 0, none⟩ = some (.int .i64 (x * u - y * v)) ∧ wx.cell? ⟨g', 1, none⟩ = some (.int .i64 (x * v + y * u)) ∧ wx.cell? ⟨w.heap.size, 0, none⟩ = some (.int .i64 x) ∧ wx.cell? ⟨w.heap.size, 1, none⟩ = some (.int .i64 y) ∧ wx.cell? ⟨w.heap.size + 1, 0, none⟩ = some (.int .i64 u) ∧ wx.cell? ⟨w.heap.size + 1, 1, none⟩ = some (.int .i64 v) ∧ Below w.heap.size w wx)
  case first =>
    go_region_held3 (fun w' => w'.cell? ⟨w.heap.size, 0, none⟩ = some (.int .i64 x) ∧ w'.cell? ⟨w.heap.size, 1, none⟩ = some (.int .i64 y) ∧ w'.cell? ⟨w.heap.size + 1, 0, none⟩ = some (.int .i64 u) ∧ w'.cell? ⟨w.heap.size + 1, 1, none⟩ = some (.int .i64 v)) (simp [go_sem, World.cell?_alloc_past, *]) (first | (go_at_call 14; refine (toGauss_any _ _ _).mono ?_; rintro e w1 ⟨rfl, c1, c2, c3, rfl⟩) | (go_at_call 23; refine (spec_times_ok _ _ _ _ _ h1 h2 h3 h4 g1 g2 g3 g4 k1 k2 k3 k4).mono ?_; rintro e w2 ⟨rfl, hbw2⟩; obtain ⟨hcw2, hfw2, _⟩ := bcell hbw2; have hzw20 : w.heap.size < w2.heap.size := (by have := hbw2.size; simp at this; omega); have hzw21 : w.heap.size + 1 < w2.heap.size := (by have := hbw2.size; simp at this; omega); have HBw2 := Lib.hid hbw2; clear hbw2))
    all_goals (go_wp2_with fail; go_meet)
    all_goals refine ⟨_, rfl, rfl, ?_, ?_, ?_, ?_, ?_, ?_, ?_, ?_, ?_, ?_⟩
    all_goals try (have hh := HBw2.out.size; simp at hh; simp [World.setCell]; omega)
    all_goals try (simp [go_sem, *]; done)
    all_goals try (repeat (first | exact Below.refl _ _ | refine b_alloc ?_ _ | refine b_drew ?_ | refine b_set ?_ (by (try simp) <;> omega) _ | refine b_step ?_ HBw2.out))
  case rest =>
  obtain ⟨g, rfl, rfl, hn0, hn1, hg, c1, c2, a1, a2, a3, a4, HB⟩ := hcut
  have HBc := Lib.hid HB
  clear HB
  have lt1 : w.heap.size < wc.heap.size + 1 := by omega
  have gt1 : g < wc.heap.size + 1 := by omega
  have wt1 : wc.heap.size < wc.heap.size + 1 := by omega
  have lt2 : w.heap.size < wc.heap.size + 1 + 1 := by omega
  have gt2 : g < wc.heap.size + 1 + 1 := by omega
  have wt2 : wc.heap.size < wc.heap.size + 1 + 1 := by omega
  have lt3 : w.heap.size < wc.heap.size + 1 + 1 + 1 := by omega
  have gt3 : g < wc.heap.size + 1 + 1 + 1 := by omega
  have wt3 : wc.heap.size < wc.heap.size + 1 + 1 + 1 := by omega
  have lt4 : w.heap.size < wc.heap.size + 1 + 1 + 1 + 1 := by omega
  have gt4 : g < wc.heap.size + 1 + 1 + 1 + 1 := by omega
  have wt4 : wc.heap.size < wc.heap.size + 1 + 1 + 1 + 1 := by omega
  have lt5 : w.heap.size < wc.heap.size + 1 + 1 + 1 + 1 + 1 := by omega
  have gt5 : g < wc.heap.size + 1 + 1 + 1 + 1 + 1 := by omega
  have wt5 : wc.heap.size < wc.heap.size + 1 + 1 + 1 + 1 + 1 := by omega
  have lt6 : w.heap.size < wc.heap.size + 1 + 1 + 1 + 1 + 1 + 1 := by omega
  have gt6 : g < wc.heap.size + 1 + 1 + 1 + 1 + 1 + 1 := by omega
  have wt6 : wc.heap.size < wc.heap.size + 1 + 1 + 1 + 1 + 1 + 1 := by omega
  have lt7 : w.heap.size < wc.heap.size + 1 + 1 + 1 + 1 + 1 + 1 + 1 := by omega
  have gt7 : g < wc.heap.size + 1 + 1 + 1 + 1 + 1 + 1 + 1 := by omega
  have wt7 : wc.heap.size < wc.heap.size + 1 + 1 + 1 + 1 + 1 + 1 + 1 := by omega
  have lt8 : w.heap.size < wc.heap.size + 1 + 1 + 1 + 1 + 1 + 1 + 1 + 1 := by omega
  have gt8 : g < wc.heap.size + 1 + 1 + 1 + 1 + 1 + 1 + 1 + 1 := by omega
  have wt8 : wc.heap.size < wc.heap.size + 1 + 1 + 1 + 1 + 1 + 1 + 1 + 1 := by omega
  go_upto_region 2 with fail
  go_cut [7, 8] (fun s5 s6 wx => ∃ g' : Nat, s5 = .pointer (some ⟨g', 0, none⟩) ∧ s6 = .bool true ∧ w.heap.size < wx.heap.size ∧ w.heap.size + 1 < wx.heap.size ∧ g' < wx.heap.size ∧ wx.cell? ⟨g', 0, none⟩ = some (.int .i64 (x * u - y * v)) ∧ wx.cell? ⟨g', 1, none⟩ = some (.int .i64 (x * v + y * u)) ∧ wx.cell? ⟨w.heap.size, 0, none⟩ = some (.int .i64 x) ∧ wx.cell? ⟨w.heap.size, 1, none⟩ = some (.int .i64 y) ∧ wx.cell? ⟨w.heap.size + 1, 0, none⟩ = some (.int .i64 u) ∧ wx.cell? ⟨w.heap.size + 1, 1, none⟩ = some (.int .i64 v) ∧ g < wx.heap.size ∧ wx.cell? ⟨g, 0, none⟩ = some (.int .i64 (x * u - y * v)) ∧ wx.cell? ⟨g, 1, none⟩ = some (.int .i64 (x * v + y * u)) ∧ Below w.heap.size w wx)
  case first =>
    go_region_held3 (fun w' => w'.cell? ⟨w.heap.size, 0, none⟩ = some (.int .i64 x) ∧ w'.cell? ⟨w.heap.size, 1, none⟩ = some (.int .i64 y) ∧ w'.cell? ⟨w.heap.size + 1, 0, none⟩ = some (.int .i64 u) ∧ w'.cell? ⟨w.heap.size + 1, 1, none⟩ = some (.int .i64 v) ∧ w'.cell? ⟨g, 0, none⟩ = some (.int .i64 (x * u - y * v)) ∧ w'.cell? ⟨g, 1, none⟩ = some (.int .i64 (x * v + y * u))) (simp [go_sem, World.cell?_alloc_past, *]) (first | (go_at_call 14; refine (toGauss_any _ _ _).mono ?_; rintro e w1 ⟨rfl, c1, c2, c3, rfl⟩) | (go_at_call 24; refine (impl_times_ok _ _ _ _ _ h1 h2 h3 h4 g1 g2 g3 g4 k1 k2 k3 k4).mono ?_; rintro e w2 ⟨rfl, hbw2⟩; obtain ⟨hcw2, hfw2, _⟩ := bcell hbw2; have hzw20 : w.heap.size < w2.heap.size := (by have := hbw2.size; simp at this; omega); have hzw21 : w.heap.size + 1 < w2.heap.size := (by have := hbw2.size; simp at this; omega); have hzw22 : g < w2.heap.size := (by have := hbw2.size; simp at this; omega); have HBw2 := Lib.hid hbw2; clear hbw2))
    all_goals (go_wp2_with fail; go_meet)
    all_goals refine ⟨_, rfl, rfl, ?_, ?_, ?_, ?_, ?_, ?_, ?_, ?_, ?_, ?_, ?_, ?_, ?_⟩
    all_goals try (have hh := HBw2.out.size; simp at hh; simp [World.setCell]; omega)
    all_goals try (simp [go_sem, *]; done)
    all_goals try (repeat (first | exact HBc.out | refine b_alloc ?_ _ | refine b_drew ?_ | refine b_set ?_ (by (try simp) <;> omega) _ | refine b_step ?_ HBw2.out))
  case rest =>
  obtain ⟨g2, rfl, rfl, hm0, hm1, hg2, d1, d2, b1, b2, b3, b4, hgg, e1, e2, HB⟩ := hcut
  have HBd := Lib.hid HB
  clear HB HBc a1 a2 a3 a4 c1 c2
  go_wp2
  go_ret
  refine ⟨rfl, ?_⟩
  repeat (first | exact HBd.out | refine b_alloc ?_ _ | refine b_drew ?_)

set_option maxHeartbeats 1000000 in
theorem walk_times_badA (x y u v : Int) (w : World) (HG : Hid (¬ gok x y)) :
    Calls Try.prog 7 #[.agg #[.int .i64 x, .int .i64 y], .agg #[.int .i64 u, .int .i64 v]] w fun e w' => e = .returned (.bool true) ∧ Below w.heap.size w w' := by
  go_enter Try.func7, Try.ntmps7
  go_upto_region 1 with fail
  go_cut [5, 6] (fun s5 s6 wx => ∃ g' : Nat, s5 = .pointer (some ⟨g', 0, none⟩) ∧ s6 = .bool false ∧ w.heap.size < wx.heap.size ∧ w.heap.size + 1 < wx.heap.size ∧ g' < wx.heap.size ∧ wx.cell? ⟨g', 0, none⟩ = some (.int .i64 0) ∧ wx.cell? ⟨g', 1, none⟩ = some (.int .i64 0) ∧ wx.cell? ⟨w.heap.size, 0, none⟩ = some (.int .i64 x) ∧ wx.cell? ⟨w.heap.size, 1, none⟩ = some (.int .i64 y) ∧ wx.cell? ⟨w.heap.size + 1, 0, none⟩ = some (.int .i64 u) ∧ wx.cell? ⟨w.heap.size + 1, 1, none⟩ = some (.int .i64 v) ∧ Below w.heap.size w wx)
  case first =>
    go_region_held3 (fun w' => w'.cell? ⟨w.heap.size, 0, none⟩ = some (.int .i64 x) ∧ w'.cell? ⟨w.heap.size, 1, none⟩ = some (.int .i64 y) ∧ w'.cell? ⟨w.heap.size + 1, 0, none⟩ = some (.int .i64 u) ∧ w'.cell? ⟨w.heap.size + 1, 1, none⟩ = some (.int .i64 v)) (simp [go_sem, World.cell?_alloc_past, *]) (first | (go_at_call 14; refine (toGauss_any _ _ _).mono ?_; rintro e w1 ⟨rfl, c1, c2, c3, rfl⟩) | (go_at_call 23; refine (spec_times_badA _ _ _ _ _ HG).mono ?_; rintro e w2 ⟨rfl, hbw2⟩; obtain ⟨hcw2, hfw2, _⟩ := bcell hbw2; have hzw20 : w.heap.size < w2.heap.size := (by have := hbw2.size; simp at this; omega); have hzw21 : w.heap.size + 1 < w2.heap.size := (by have := hbw2.size; simp at this; omega); have HBw2 := Lib.hid hbw2; clear hbw2))
    all_goals (go_wp2_with fail; go_meet)
    all_goals refine ⟨_, rfl, rfl, ?_, ?_, ?_, ?_, ?_, ?_, ?_, ?_, ?_, ?_⟩
    all_goals try (have hh := HBw2.out.size; simp at hh; simp [World.setCell]; omega)
    all_goals try (simp [go_sem, *]; done)
    all_goals try (repeat (first | exact Below.refl _ _ | refine b_alloc ?_ _ | refine b_drew ?_ | refine b_set ?_ (by (try simp) <;> omega) _ | refine b_step ?_ HBw2.out))
  case rest =>
  obtain ⟨g, rfl, rfl, hn0, hn1, hg, c1, c2, a1, a2, a3, a4, HB⟩ := hcut
  have HBc := Lib.hid HB
  clear HB
  have lt1 : w.heap.size < wc.heap.size + 1 := by omega
  have gt1 : g < wc.heap.size + 1 := by omega
  have wt1 : wc.heap.size < wc.heap.size + 1 := by omega
  have lt2 : w.heap.size < wc.heap.size + 1 + 1 := by omega
  have gt2 : g < wc.heap.size + 1 + 1 := by omega
  have wt2 : wc.heap.size < wc.heap.size + 1 + 1 := by omega
  have lt3 : w.heap.size < wc.heap.size + 1 + 1 + 1 := by omega
  have gt3 : g < wc.heap.size + 1 + 1 + 1 := by omega
  have wt3 : wc.heap.size < wc.heap.size + 1 + 1 + 1 := by omega
  have lt4 : w.heap.size < wc.heap.size + 1 + 1 + 1 + 1 := by omega
  have gt4 : g < wc.heap.size + 1 + 1 + 1 + 1 := by omega
  have wt4 : wc.heap.size < wc.heap.size + 1 + 1 + 1 + 1 := by omega
  have lt5 : w.heap.size < wc.heap.size + 1 + 1 + 1 + 1 + 1 := by omega
  have gt5 : g < wc.heap.size + 1 + 1 + 1 + 1 + 1 := by omega
  have wt5 : wc.heap.size < wc.heap.size + 1 + 1 + 1 + 1 + 1 := by omega
  have lt6 : w.heap.size < wc.heap.size + 1 + 1 + 1 + 1 + 1 + 1 := by omega
  have gt6 : g < wc.heap.size + 1 + 1 + 1 + 1 + 1 + 1 := by omega
  have wt6 : wc.heap.size < wc.heap.size + 1 + 1 + 1 + 1 + 1 + 1 := by omega
  have lt7 : w.heap.size < wc.heap.size + 1 + 1 + 1 + 1 + 1 + 1 + 1 := by omega
  have gt7 : g < wc.heap.size + 1 + 1 + 1 + 1 + 1 + 1 + 1 := by omega
  have wt7 : wc.heap.size < wc.heap.size + 1 + 1 + 1 + 1 + 1 + 1 + 1 := by omega
  have lt8 : w.heap.size < wc.heap.size + 1 + 1 + 1 + 1 + 1 + 1 + 1 + 1 := by omega
  have gt8 : g < wc.heap.size + 1 + 1 + 1 + 1 + 1 + 1 + 1 + 1 := by omega
  have wt8 : wc.heap.size < wc.heap.size + 1 + 1 + 1 + 1 + 1 + 1 + 1 + 1 := by omega
  go_upto_region 2 with fail
  go_cut [7, 8] (fun s5 s6 wx => ∃ g' : Nat, s5 = .pointer (some ⟨g', 0, none⟩) ∧ s6 = .bool false ∧ w.heap.size < wx.heap.size ∧ w.heap.size + 1 < wx.heap.size ∧ g' < wx.heap.size ∧ wx.cell? ⟨g', 0, none⟩ = some (.int .i64 0) ∧ wx.cell? ⟨g', 1, none⟩ = some (.int .i64 0) ∧ wx.cell? ⟨w.heap.size, 0, none⟩ = some (.int .i64 x) ∧ wx.cell? ⟨w.heap.size, 1, none⟩ = some (.int .i64 y) ∧ wx.cell? ⟨w.heap.size + 1, 0, none⟩ = some (.int .i64 u) ∧ wx.cell? ⟨w.heap.size + 1, 1, none⟩ = some (.int .i64 v) ∧ g < wx.heap.size ∧ wx.cell? ⟨g, 0, none⟩ = some (.int .i64 0) ∧ wx.cell? ⟨g, 1, none⟩ = some (.int .i64 0) ∧ Below w.heap.size w wx)
  case first =>
    go_region_held3 (fun w' => w'.cell? ⟨w.heap.size, 0, none⟩ = some (.int .i64 x) ∧ w'.cell? ⟨w.heap.size, 1, none⟩ = some (.int .i64 y) ∧ w'.cell? ⟨w.heap.size + 1, 0, none⟩ = some (.int .i64 u) ∧ w'.cell? ⟨w.heap.size + 1, 1, none⟩ = some (.int .i64 v) ∧ w'.cell? ⟨g, 0, none⟩ = some (.int .i64 0) ∧ w'.cell? ⟨g, 1, none⟩ = some (.int .i64 0)) (simp [go_sem, World.cell?_alloc_past, *]) (first | (go_at_call 14; refine (toGauss_any _ _ _).mono ?_; rintro e w1 ⟨rfl, c1, c2, c3, rfl⟩) | (go_at_call 24; refine (impl_times_badA _ _ _ _ _ HG).mono ?_; rintro e w2 ⟨rfl, hbw2⟩; obtain ⟨hcw2, hfw2, _⟩ := bcell hbw2; have hzw20 : w.heap.size < w2.heap.size := (by have := hbw2.size; simp at this; omega); have hzw21 : w.heap.size + 1 < w2.heap.size := (by have := hbw2.size; simp at this; omega); have hzw22 : g < w2.heap.size := (by have := hbw2.size; simp at this; omega); have HBw2 := Lib.hid hbw2; clear hbw2))
    all_goals (go_wp2_with fail; go_meet)
    all_goals refine ⟨_, rfl, rfl, ?_, ?_, ?_, ?_, ?_, ?_, ?_, ?_, ?_, ?_, ?_, ?_, ?_⟩
    all_goals try (have hh := HBw2.out.size; simp at hh; simp [World.setCell]; omega)
    all_goals try (simp [go_sem, *]; done)
    all_goals try (repeat (first | exact HBc.out | refine b_alloc ?_ _ | refine b_drew ?_ | refine b_set ?_ (by (try simp) <;> omega) _ | refine b_step ?_ HBw2.out))
  case rest =>
  obtain ⟨g2, rfl, rfl, hm0, hm1, hg2, d1, d2, b1, b2, b3, b4, hgg, e1, e2, HB⟩ := hcut
  have HBd := Lib.hid HB
  clear HB HBc a1 a2 a3 a4 c1 c2
  go_wp2
  go_ret
  refine ⟨rfl, ?_⟩
  repeat (first | exact HBd.out | refine b_alloc ?_ _ | refine b_drew ?_)

set_option maxHeartbeats 1000000 in
theorem walk_times_badB (x y u v : Int) (w : World) (h1 : -100000 ≤ x) (h2 : x ≤ 100000) (h3 : -100000 ≤ y) (h4 : y ≤ 100000) (HG : Hid (¬ gok u v)) :
    Calls Try.prog 7 #[.agg #[.int .i64 x, .int .i64 y], .agg #[.int .i64 u, .int .i64 v]] w fun e w' => e = .returned (.bool true) ∧ Below w.heap.size w w' := by
  go_enter Try.func7, Try.ntmps7
  go_upto_region 1 with fail
  go_cut [5, 6] (fun s5 s6 wx => ∃ g' : Nat, s5 = .pointer (some ⟨g', 0, none⟩) ∧ s6 = .bool false ∧ w.heap.size < wx.heap.size ∧ w.heap.size + 1 < wx.heap.size ∧ g' < wx.heap.size ∧ wx.cell? ⟨g', 0, none⟩ = some (.int .i64 0) ∧ wx.cell? ⟨g', 1, none⟩ = some (.int .i64 0) ∧ wx.cell? ⟨w.heap.size, 0, none⟩ = some (.int .i64 x) ∧ wx.cell? ⟨w.heap.size, 1, none⟩ = some (.int .i64 y) ∧ wx.cell? ⟨w.heap.size + 1, 0, none⟩ = some (.int .i64 u) ∧ wx.cell? ⟨w.heap.size + 1, 1, none⟩ = some (.int .i64 v) ∧ Below w.heap.size w wx)
  case first =>
    go_region_held3 (fun w' => w'.cell? ⟨w.heap.size, 0, none⟩ = some (.int .i64 x) ∧ w'.cell? ⟨w.heap.size, 1, none⟩ = some (.int .i64 y) ∧ w'.cell? ⟨w.heap.size + 1, 0, none⟩ = some (.int .i64 u) ∧ w'.cell? ⟨w.heap.size + 1, 1, none⟩ = some (.int .i64 v)) (simp [go_sem, World.cell?_alloc_past, *]) (first | (go_at_call 14; refine (toGauss_any _ _ _).mono ?_; rintro e w1 ⟨rfl, c1, c2, c3, rfl⟩) | (go_at_call 23; refine (spec_times_badB _ _ _ _ _ h1 h2 h3 h4 HG).mono ?_; rintro e w2 ⟨rfl, hbw2⟩; obtain ⟨hcw2, hfw2, _⟩ := bcell hbw2; have hzw20 : w.heap.size < w2.heap.size := (by have := hbw2.size; simp at this; omega); have hzw21 : w.heap.size + 1 < w2.heap.size := (by have := hbw2.size; simp at this; omega); have HBw2 := Lib.hid hbw2; clear hbw2))
    all_goals (go_wp2_with fail; go_meet)
    all_goals refine ⟨_, rfl, rfl, ?_, ?_, ?_, ?_, ?_, ?_, ?_, ?_, ?_, ?_⟩
    all_goals try (have hh := HBw2.out.size; simp at hh; simp [World.setCell]; omega)
    all_goals try (simp [go_sem, *]; done)
    all_goals try (repeat (first | exact Below.refl _ _ | refine b_alloc ?_ _ | refine b_drew ?_ | refine b_set ?_ (by (try simp) <;> omega) _ | refine b_step ?_ HBw2.out))
  case rest =>
  obtain ⟨g, rfl, rfl, hn0, hn1, hg, c1, c2, a1, a2, a3, a4, HB⟩ := hcut
  have HBc := Lib.hid HB
  clear HB
  have lt1 : w.heap.size < wc.heap.size + 1 := by omega
  have gt1 : g < wc.heap.size + 1 := by omega
  have wt1 : wc.heap.size < wc.heap.size + 1 := by omega
  have lt2 : w.heap.size < wc.heap.size + 1 + 1 := by omega
  have gt2 : g < wc.heap.size + 1 + 1 := by omega
  have wt2 : wc.heap.size < wc.heap.size + 1 + 1 := by omega
  have lt3 : w.heap.size < wc.heap.size + 1 + 1 + 1 := by omega
  have gt3 : g < wc.heap.size + 1 + 1 + 1 := by omega
  have wt3 : wc.heap.size < wc.heap.size + 1 + 1 + 1 := by omega
  have lt4 : w.heap.size < wc.heap.size + 1 + 1 + 1 + 1 := by omega
  have gt4 : g < wc.heap.size + 1 + 1 + 1 + 1 := by omega
  have wt4 : wc.heap.size < wc.heap.size + 1 + 1 + 1 + 1 := by omega
  have lt5 : w.heap.size < wc.heap.size + 1 + 1 + 1 + 1 + 1 := by omega
  have gt5 : g < wc.heap.size + 1 + 1 + 1 + 1 + 1 := by omega
  have wt5 : wc.heap.size < wc.heap.size + 1 + 1 + 1 + 1 + 1 := by omega
  have lt6 : w.heap.size < wc.heap.size + 1 + 1 + 1 + 1 + 1 + 1 := by omega
  have gt6 : g < wc.heap.size + 1 + 1 + 1 + 1 + 1 + 1 := by omega
  have wt6 : wc.heap.size < wc.heap.size + 1 + 1 + 1 + 1 + 1 + 1 := by omega
  have lt7 : w.heap.size < wc.heap.size + 1 + 1 + 1 + 1 + 1 + 1 + 1 := by omega
  have gt7 : g < wc.heap.size + 1 + 1 + 1 + 1 + 1 + 1 + 1 := by omega
  have wt7 : wc.heap.size < wc.heap.size + 1 + 1 + 1 + 1 + 1 + 1 + 1 := by omega
  have lt8 : w.heap.size < wc.heap.size + 1 + 1 + 1 + 1 + 1 + 1 + 1 + 1 := by omega
  have gt8 : g < wc.heap.size + 1 + 1 + 1 + 1 + 1 + 1 + 1 + 1 := by omega
  have wt8 : wc.heap.size < wc.heap.size + 1 + 1 + 1 + 1 + 1 + 1 + 1 + 1 := by omega
  go_upto_region 2 with fail
  go_cut [7, 8] (fun s5 s6 wx => ∃ g' : Nat, s5 = .pointer (some ⟨g', 0, none⟩) ∧ s6 = .bool false ∧ w.heap.size < wx.heap.size ∧ w.heap.size + 1 < wx.heap.size ∧ g' < wx.heap.size ∧ wx.cell? ⟨g', 0, none⟩ = some (.int .i64 0) ∧ wx.cell? ⟨g', 1, none⟩ = some (.int .i64 0) ∧ wx.cell? ⟨w.heap.size, 0, none⟩ = some (.int .i64 x) ∧ wx.cell? ⟨w.heap.size, 1, none⟩ = some (.int .i64 y) ∧ wx.cell? ⟨w.heap.size + 1, 0, none⟩ = some (.int .i64 u) ∧ wx.cell? ⟨w.heap.size + 1, 1, none⟩ = some (.int .i64 v) ∧ g < wx.heap.size ∧ wx.cell? ⟨g, 0, none⟩ = some (.int .i64 0) ∧ wx.cell? ⟨g, 1, none⟩ = some (.int .i64 0) ∧ Below w.heap.size w wx)
  case first =>
    go_region_held3 (fun w' => w'.cell? ⟨w.heap.size, 0, none⟩ = some (.int .i64 x) ∧ w'.cell? ⟨w.heap.size, 1, none⟩ = some (.int .i64 y) ∧ w'.cell? ⟨w.heap.size + 1, 0, none⟩ = some (.int .i64 u) ∧ w'.cell? ⟨w.heap.size + 1, 1, none⟩ = some (.int .i64 v) ∧ w'.cell? ⟨g, 0, none⟩ = some (.int .i64 0) ∧ w'.cell? ⟨g, 1, none⟩ = some (.int .i64 0)) (simp [go_sem, World.cell?_alloc_past, *]) (first | (go_at_call 14; refine (toGauss_any _ _ _).mono ?_; rintro e w1 ⟨rfl, c1, c2, c3, rfl⟩) | (go_at_call 24; refine (impl_times_badB _ _ _ _ _ h1 h2 h3 h4 HG).mono ?_; rintro e w2 ⟨rfl, hbw2⟩; obtain ⟨hcw2, hfw2, _⟩ := bcell hbw2; have hzw20 : w.heap.size < w2.heap.size := (by have := hbw2.size; simp at this; omega); have hzw21 : w.heap.size + 1 < w2.heap.size := (by have := hbw2.size; simp at this; omega); have hzw22 : g < w2.heap.size := (by have := hbw2.size; simp at this; omega); have HBw2 := Lib.hid hbw2; clear hbw2))
    all_goals (go_wp2_with fail; go_meet)
    all_goals refine ⟨_, rfl, rfl, ?_, ?_, ?_, ?_, ?_, ?_, ?_, ?_, ?_, ?_, ?_, ?_, ?_⟩
    all_goals try (have hh := HBw2.out.size; simp at hh; simp [World.setCell]; omega)
    all_goals try (simp [go_sem, *]; done)
    all_goals try (repeat (first | exact HBc.out | refine b_alloc ?_ _ | refine b_drew ?_ | refine b_set ?_ (by (try simp) <;> omega) _ | refine b_step ?_ HBw2.out))
  case rest =>
  obtain ⟨g2, rfl, rfl, hm0, hm1, hg2, d1, d2, b1, b2, b3, b4, hgg, e1, e2, HB⟩ := hcut
  have HBd := Lib.hid HB
  clear HB HBc a1 a2 a3 a4 c1 c2
  go_wp2
  go_ret
  refine ⟨rfl, ?_⟩
  repeat (first | exact HBd.out | refine b_alloc ?_ _ | refine b_drew ?_)

set_option maxHeartbeats 1000000 in
theorem walk_times_badC (x y u v : Int) (w : World) (h1 : -100000 ≤ x) (h2 : x ≤ 100000) (h3 : -100000 ≤ y) (h4 : y ≤ 100000) (g1 : -100000 ≤ u) (g2 : u ≤ 100000) (g3 : -100000 ≤ v) (g4 : v ≤ 100000) (HG : Hid (¬ gok (x * u - y * v) (x * v + y * u))) :
    Calls Try.prog 7 #[.agg #[.int .i64 x, .int .i64 y], .agg #[.int .i64 u, .int .i64 v]] w fun e w' => e = .returned (.bool true) ∧ Below w.heap.size w w' := by
  go_enter Try.func7, Try.ntmps7
  go_upto_region 1 with fail
  go_cut [5, 6] (fun s5 s6 wx => ∃ g' : Nat, s5 = .pointer (some ⟨g', 0, none⟩) ∧ s6 = .bool false ∧ w.heap.size < wx.heap.size ∧ w.heap.size + 1 < wx.heap.size ∧ g' < wx.heap.size ∧ wx.cell? ⟨g', 0, none⟩ = some (.int .i64 0) ∧ wx.cell? ⟨g', 1, none⟩ = some (.int .i64 0) ∧ wx.cell? ⟨w.heap.size, 0, none⟩ = some (.int .i64 x) ∧ wx.cell? ⟨w.heap.size, 1, none⟩ = some (.int .i64 y) ∧ wx.cell? ⟨w.heap.size + 1, 0, none⟩ = some (.int .i64 u) ∧ wx.cell? ⟨w.heap.size + 1, 1, none⟩ = some (.int .i64 v) ∧ Below w.heap.size w wx)
  case first =>
    go_region_held3 (fun w' => w'.cell? ⟨w.heap.size, 0, none⟩ = some (.int .i64 x) ∧ w'.cell? ⟨w.heap.size, 1, none⟩ = some (.int .i64 y) ∧ w'.cell? ⟨w.heap.size + 1, 0, none⟩ = some (.int .i64 u) ∧ w'.cell? ⟨w.heap.size + 1, 1, none⟩ = some (.int .i64 v)) (simp [go_sem, World.cell?_alloc_past, *]) (first | (go_at_call 14; refine (toGauss_any _ _ _).mono ?_; rintro e w1 ⟨rfl, c1, c2, c3, rfl⟩) | (go_at_call 23; refine (spec_times_badC _ _ _ _ _ h1 h2 h3 h4 g1 g2 g3 g4 HG).mono ?_; rintro e w2 ⟨rfl, hbw2⟩; obtain ⟨hcw2, hfw2, _⟩ := bcell hbw2; have hzw20 : w.heap.size < w2.heap.size := (by have := hbw2.size; simp at this; omega); have hzw21 : w.heap.size + 1 < w2.heap.size := (by have := hbw2.size; simp at this; omega); have HBw2 := Lib.hid hbw2; clear hbw2))
    all_goals (go_wp2_with fail; go_meet)
    all_goals refine ⟨_, rfl, rfl, ?_, ?_, ?_, ?_, ?_, ?_, ?_, ?_, ?_, ?_⟩
    all_goals try (have hh := HBw2.out.size; simp at hh; simp [World.setCell]; omega)
    all_goals try (simp [go_sem, *]; done)
    all_goals try (repeat (first | exact Below.refl _ _ | refine b_alloc ?_ _ | refine b_drew ?_ | refine b_set ?_ (by (try simp) <;> omega) _ | refine b_step ?_ HBw2.out))
  case rest =>
  obtain ⟨g, rfl, rfl, hn0, hn1, hg, c1, c2, a1, a2, a3, a4, HB⟩ := hcut
  have HBc := Lib.hid HB
  clear HB
  have lt1 : w.heap.size < wc.heap.size + 1 := by omega
  have gt1 : g < wc.heap.size + 1 := by omega
  have wt1 : wc.heap.size < wc.heap.size + 1 := by omega
  have lt2 : w.heap.size < wc.heap.size + 1 + 1 := by omega
  have gt2 : g < wc.heap.size + 1 + 1 := by omega
  have wt2 : wc.heap.size < wc.heap.size + 1 + 1 := by omega
  have lt3 : w.heap.size < wc.heap.size + 1 + 1 + 1 := by omega
  have gt3 : g < wc.heap.size + 1 + 1 + 1 := by omega
  have wt3 : wc.heap.size < wc.heap.size + 1 + 1 + 1 := by omega
  have lt4 : w.heap.size < wc.heap.size + 1 + 1 + 1 + 1 := by omega
  have gt4 : g < wc.heap.size + 1 + 1 + 1 + 1 := by omega
  have wt4 : wc.heap.size < wc.heap.size + 1 + 1 + 1 + 1 := by omega
  have lt5 : w.heap.size < wc.heap.size + 1 + 1 + 1 + 1 + 1 := by omega
  have gt5 : g < wc.heap.size + 1 + 1 + 1 + 1 + 1 := by omega
  have wt5 : wc.heap.size < wc.heap.size + 1 + 1 + 1 + 1 + 1 := by omega
  have lt6 : w.heap.size < wc.heap.size + 1 + 1 + 1 + 1 + 1 + 1 := by omega
  have gt6 : g < wc.heap.size + 1 + 1 + 1 + 1 + 1 + 1 := by omega
  have wt6 : wc.heap.size < wc.heap.size + 1 + 1 + 1 + 1 + 1 + 1 := by omega
  have lt7 : w.heap.size < wc.heap.size + 1 + 1 + 1 + 1 + 1 + 1 + 1 := by omega
  have gt7 : g < wc.heap.size + 1 + 1 + 1 + 1 + 1 + 1 + 1 := by omega
  have wt7 : wc.heap.size < wc.heap.size + 1 + 1 + 1 + 1 + 1 + 1 + 1 := by omega
  have lt8 : w.heap.size < wc.heap.size + 1 + 1 + 1 + 1 + 1 + 1 + 1 + 1 := by omega
  have gt8 : g < wc.heap.size + 1 + 1 + 1 + 1 + 1 + 1 + 1 + 1 := by omega
  have wt8 : wc.heap.size < wc.heap.size + 1 + 1 + 1 + 1 + 1 + 1 + 1 + 1 := by omega
  go_upto_region 2 with fail
  go_cut [7, 8] (fun s5 s6 wx => ∃ g' : Nat, s5 = .pointer (some ⟨g', 0, none⟩) ∧ s6 = .bool false ∧ w.heap.size < wx.heap.size ∧ w.heap.size + 1 < wx.heap.size ∧ g' < wx.heap.size ∧ wx.cell? ⟨g', 0, none⟩ = some (.int .i64 0) ∧ wx.cell? ⟨g', 1, none⟩ = some (.int .i64 0) ∧ wx.cell? ⟨w.heap.size, 0, none⟩ = some (.int .i64 x) ∧ wx.cell? ⟨w.heap.size, 1, none⟩ = some (.int .i64 y) ∧ wx.cell? ⟨w.heap.size + 1, 0, none⟩ = some (.int .i64 u) ∧ wx.cell? ⟨w.heap.size + 1, 1, none⟩ = some (.int .i64 v) ∧ g < wx.heap.size ∧ wx.cell? ⟨g, 0, none⟩ = some (.int .i64 0) ∧ wx.cell? ⟨g, 1, none⟩ = some (.int .i64 0) ∧ Below w.heap.size w wx)
  case first =>
    go_region_held3 (fun w' => w'.cell? ⟨w.heap.size, 0, none⟩ = some (.int .i64 x) ∧ w'.cell? ⟨w.heap.size, 1, none⟩ = some (.int .i64 y) ∧ w'.cell? ⟨w.heap.size + 1, 0, none⟩ = some (.int .i64 u) ∧ w'.cell? ⟨w.heap.size + 1, 1, none⟩ = some (.int .i64 v) ∧ w'.cell? ⟨g, 0, none⟩ = some (.int .i64 0) ∧ w'.cell? ⟨g, 1, none⟩ = some (.int .i64 0)) (simp [go_sem, World.cell?_alloc_past, *]) (first | (go_at_call 14; refine (toGauss_any _ _ _).mono ?_; rintro e w1 ⟨rfl, c1, c2, c3, rfl⟩) | (go_at_call 24; refine (impl_times_badC _ _ _ _ _ h1 h2 h3 h4 g1 g2 g3 g4 HG).mono ?_; rintro e w2 ⟨rfl, hbw2⟩; obtain ⟨hcw2, hfw2, _⟩ := bcell hbw2; have hzw20 : w.heap.size < w2.heap.size := (by have := hbw2.size; simp at this; omega); have hzw21 : w.heap.size + 1 < w2.heap.size := (by have := hbw2.size; simp at this; omega); have hzw22 : g < w2.heap.size := (by have := hbw2.size; simp at this; omega); have HBw2 := Lib.hid hbw2; clear hbw2))
    all_goals (go_wp2_with fail; go_meet)
    all_goals refine ⟨_, rfl, rfl, ?_, ?_, ?_, ?_, ?_, ?_, ?_, ?_, ?_, ?_, ?_, ?_, ?_⟩
    all_goals try (have hh := HBw2.out.size; simp at hh; simp [World.setCell]; omega)
    all_goals try (simp [go_sem, *]; done)
    all_goals try (repeat (first | exact HBc.out | refine b_alloc ?_ _ | refine b_drew ?_ | refine b_set ?_ (by (try simp) <;> omega) _ | refine b_step ?_ HBw2.out))
  case rest =>
  obtain ⟨g2, rfl, rfl, hm0, hm1, hg2, d1, d2, b1, b2, b3, b4, hgg, e1, e2, HB⟩ := hcut
  have HBd := Lib.hid HB
  clear HB HBc a1 a2 a3 a4 c1 c2
  go_wp2
  go_ret
  refine ⟨rfl, ?_⟩
  repeat (first | exact HBd.out | refine b_alloc ?_ _ | refine b_drew ?_)

theorem walk_times (x y : Int) (_ : (Lit.int .i64 x).wf = true) (_ : (Lit.int .i64 y).wf = true) (u v : Int) (_ : (Lit.int .i64 u).wf = true) (_ : (Lit.int .i64 v).wf = true) (w : World) :
    Calls Try.prog 7 #[.agg #[.int .i64 x, .int .i64 y], .agg #[.int .i64 u, .int .i64 v]] w fun e w' => e = .returned (.bool true) ∧ Below w.heap.size w w' := by
  by_cases hg : gok x y
  · by_cases hh : gok u v
    · by_cases hk : gok (x * u - y * v) (x * v + y * u)
      · exact walk_times_ok x y u v w hg.1 hg.2.1 hg.2.2.1 hg.2.2.2 hh.1 hh.2.1 hh.2.2.1 hh.2.2.2 hk.1 hk.2.1 hk.2.2.1 hk.2.2.2
      · exact walk_times_badC x y u v w hg.1 hg.2.1 hg.2.2.1 hg.2.2.2 hh.1 hh.2.1 hh.2.2.1 hh.2.2.2 hk
    · exact walk_times_badB x y u v w hg.1 hg.2.1 hg.2.2.1 hg.2.2.2 hh
  · exact walk_times_badA x y u v w hg

end Go.Proofs.Ythblbmihpgkanaa
