/- The walk of the law DivideGauss over the contracts. Conditions: none. -/
import Derived.Test.YthblbmihpgkanaaDivB
import Derived.Test.YthblbmihpgkanaaDivGS
import Derived.Test.YthblbmihpgkanaaDivGI
import Derived.Deep.RegionHeld3
import Derived.Deep.DeepCutAuto
namespace Go.Proofs.Ythblbmihpgkanaa
open Go.RowKit
set_option linter.unusedVariables false
set_option maxRecDepth 100000 in
set_option maxHeartbeats 40000000 in
theorem walk_div0 (x y u v q1 q2 r1 r2 : Int) (t : Bool) (w : World) (HS : ∀ w, Calls Try.prog 30 #[.agg #[.int .i64 x, .int .i64 y], .agg #[.int .i64 u, .int .i64 v]] w fun e w' => e = .returned (.tuple #[.agg #[.int .i64 q1, .int .i64 q2], .agg #[.int .i64 r1, .int .i64 r2], .bool t]) ∧ Below w.heap.size w w') (HI : ∀ w, Calls Try.prog 31 #[.agg #[.int .i64 x, .int .i64 y], .agg #[.int .i64 u, .int .i64 v]] w fun e w' => e = .returned (.tuple #[.agg #[.int .i64 q1, .int .i64 q2], .agg #[.int .i64 r1, .int .i64 r2], .bool t]) ∧ Below w.heap.size w w') :
    Calls Try.prog 9 #[.agg #[.int .i64 x, .int .i64 y], .agg #[.int .i64 u, .int .i64 v]] w fun e w' => e = .returned (.bool true) ∧ Below w.heap.size w w' := by
  go_enter Try.func9, Try.ntmps9
  go_upto_region 1 with fail
  go_cut [5, 6, 7] (fun s5 s6 s7 wx => ∃ g' k' : Nat, s5 = .pointer (some ⟨g', 0, none⟩) ∧ s6 = .pointer (some ⟨k', 0, none⟩) ∧ s7 = .bool t ∧ w.heap.size < wx.heap.size ∧ w.heap.size + 1 < wx.heap.size ∧ g' < wx.heap.size ∧ k' < wx.heap.size ∧ wx.cell? ⟨g', 0, none⟩ = some (.int .i64 q1) ∧ wx.cell? ⟨g', 1, none⟩ = some (.int .i64 q2) ∧ wx.cell? ⟨k', 0, none⟩ = some (.int .i64 r1) ∧ wx.cell? ⟨k', 1, none⟩ = some (.int .i64 r2) ∧ wx.cell? ⟨w.heap.size, 0, none⟩ = some (.int .i64 x) ∧ wx.cell? ⟨w.heap.size, 1, none⟩ = some (.int .i64 y) ∧ wx.cell? ⟨w.heap.size + 1, 0, none⟩ = some (.int .i64 u) ∧ wx.cell? ⟨w.heap.size + 1, 1, none⟩ = some (.int .i64 v) ∧ Below w.heap.size w wx)
  case first =>
    go_region_held3 (fun w' => w'.cell? ⟨w.heap.size, 0, none⟩ = some (.int .i64 x) ∧ w'.cell? ⟨w.heap.size, 1, none⟩ = some (.int .i64 y) ∧ w'.cell? ⟨w.heap.size + 1, 0, none⟩ = some (.int .i64 u) ∧ w'.cell? ⟨w.heap.size + 1, 1, none⟩ = some (.int .i64 v)) (simp [go_sem, World.cell?_alloc_past, *]) (first | (go_at_call 14; refine (toGauss_any _ _ _).mono ?_; rintro e w1 ⟨rfl, c1, c2, c3, rfl⟩) | (go_at_call 30; refine (HS _).mono ?_; rintro e w2 ⟨rfl, hbw2⟩; obtain ⟨hcw2, hfw2, _⟩ := bcell hbw2; have hzw20 : w.heap.size < w2.heap.size := (by have := hbw2.size; simp at this; omega); have hzw21 : w.heap.size + 1 < w2.heap.size := (by have := hbw2.size; simp at this; omega); have HBw2 := Lib.hid hbw2; clear hbw2))
    all_goals (go_wp2_with fail; go_meet)
    all_goals refine ⟨_, _, rfl, rfl, rfl, ?_, ?_, ?_, ?_, ?_, ?_, ?_, ?_, ?_, ?_, ?_, ?_, ?_⟩
    all_goals try (have hh := HBw2.out.size; simp at hh; simp [World.setCell]; omega)
    all_goals try (simp [go_sem, *]; done)
    all_goals try (repeat (first | exact Below.refl _ _ | refine b_alloc ?_ _ | refine b_drew ?_ | refine b_set ?_ (by (try simp) <;> omega) _ | refine b_step ?_ HBw2.out))
  case rest =>
  obtain ⟨g, k, rfl, rfl, rfl, hn0, hn1, hg, hk, c1, c2, c3, c4, a1, a2, a3, a4, HB⟩ := hcut
  have HBc := Lib.hid HB
  clear HB
  have lt1 : w.heap.size < wc.heap.size + 1 := by omega
  have gt1 : g < wc.heap.size + 1 := by omega
  have kt1 : k < wc.heap.size + 1 := by omega
  have wt1 : wc.heap.size < wc.heap.size + 1 := by omega
  have lt2 : w.heap.size < wc.heap.size + 1 + 1 := by omega
  have gt2 : g < wc.heap.size + 1 + 1 := by omega
  have kt2 : k < wc.heap.size + 1 + 1 := by omega
  have wt2 : wc.heap.size < wc.heap.size + 1 + 1 := by omega
  have lt3 : w.heap.size < wc.heap.size + 1 + 1 + 1 := by omega
  have gt3 : g < wc.heap.size + 1 + 1 + 1 := by omega
  have kt3 : k < wc.heap.size + 1 + 1 + 1 := by omega
  have wt3 : wc.heap.size < wc.heap.size + 1 + 1 + 1 := by omega
  have lt4 : w.heap.size < wc.heap.size + 1 + 1 + 1 + 1 := by omega
  have gt4 : g < wc.heap.size + 1 + 1 + 1 + 1 := by omega
  have kt4 : k < wc.heap.size + 1 + 1 + 1 + 1 := by omega
  have wt4 : wc.heap.size < wc.heap.size + 1 + 1 + 1 + 1 := by omega
  have lt5 : w.heap.size < wc.heap.size + 1 + 1 + 1 + 1 + 1 := by omega
  have gt5 : g < wc.heap.size + 1 + 1 + 1 + 1 + 1 := by omega
  have kt5 : k < wc.heap.size + 1 + 1 + 1 + 1 + 1 := by omega
  have wt5 : wc.heap.size < wc.heap.size + 1 + 1 + 1 + 1 + 1 := by omega
  have lt6 : w.heap.size < wc.heap.size + 1 + 1 + 1 + 1 + 1 + 1 := by omega
  have gt6 : g < wc.heap.size + 1 + 1 + 1 + 1 + 1 + 1 := by omega
  have kt6 : k < wc.heap.size + 1 + 1 + 1 + 1 + 1 + 1 := by omega
  have wt6 : wc.heap.size < wc.heap.size + 1 + 1 + 1 + 1 + 1 + 1 := by omega
  have lt7 : w.heap.size < wc.heap.size + 1 + 1 + 1 + 1 + 1 + 1 + 1 := by omega
  have gt7 : g < wc.heap.size + 1 + 1 + 1 + 1 + 1 + 1 + 1 := by omega
  have kt7 : k < wc.heap.size + 1 + 1 + 1 + 1 + 1 + 1 + 1 := by omega
  have wt7 : wc.heap.size < wc.heap.size + 1 + 1 + 1 + 1 + 1 + 1 + 1 := by omega
  have lt8 : w.heap.size < wc.heap.size + 1 + 1 + 1 + 1 + 1 + 1 + 1 + 1 := by omega
  have gt8 : g < wc.heap.size + 1 + 1 + 1 + 1 + 1 + 1 + 1 + 1 := by omega
  have kt8 : k < wc.heap.size + 1 + 1 + 1 + 1 + 1 + 1 + 1 + 1 := by omega
  have wt8 : wc.heap.size < wc.heap.size + 1 + 1 + 1 + 1 + 1 + 1 + 1 + 1 := by omega
  go_upto_region 2 with fail
  go_cut [8, 9, 10] (fun s5 s6 s7 wx => ∃ g' k' : Nat, s5 = .pointer (some ⟨g', 0, none⟩) ∧ s6 = .pointer (some ⟨k', 0, none⟩) ∧ s7 = .bool t ∧ w.heap.size < wx.heap.size ∧ w.heap.size + 1 < wx.heap.size ∧ g' < wx.heap.size ∧ k' < wx.heap.size ∧ wx.cell? ⟨g', 0, none⟩ = some (.int .i64 q1) ∧ wx.cell? ⟨g', 1, none⟩ = some (.int .i64 q2) ∧ wx.cell? ⟨k', 0, none⟩ = some (.int .i64 r1) ∧ wx.cell? ⟨k', 1, none⟩ = some (.int .i64 r2) ∧ wx.cell? ⟨w.heap.size, 0, none⟩ = some (.int .i64 x) ∧ wx.cell? ⟨w.heap.size, 1, none⟩ = some (.int .i64 y) ∧ wx.cell? ⟨w.heap.size + 1, 0, none⟩ = some (.int .i64 u) ∧ wx.cell? ⟨w.heap.size + 1, 1, none⟩ = some (.int .i64 v) ∧ g < wx.heap.size ∧ k < wx.heap.size ∧ wx.cell? ⟨g, 0, none⟩ = some (.int .i64 q1) ∧ wx.cell? ⟨g, 1, none⟩ = some (.int .i64 q2) ∧ wx.cell? ⟨k, 0, none⟩ = some (.int .i64 r1) ∧ wx.cell? ⟨k, 1, none⟩ = some (.int .i64 r2) ∧ Below w.heap.size w wx)
  case first =>
    go_region_held3 (fun w' => w'.cell? ⟨w.heap.size, 0, none⟩ = some (.int .i64 x) ∧ w'.cell? ⟨w.heap.size, 1, none⟩ = some (.int .i64 y) ∧ w'.cell? ⟨w.heap.size + 1, 0, none⟩ = some (.int .i64 u) ∧ w'.cell? ⟨w.heap.size + 1, 1, none⟩ = some (.int .i64 v) ∧ w'.cell? ⟨g, 0, none⟩ = some (.int .i64 q1) ∧ w'.cell? ⟨g, 1, none⟩ = some (.int .i64 q2) ∧ w'.cell? ⟨k, 0, none⟩ = some (.int .i64 r1) ∧ w'.cell? ⟨k, 1, none⟩ = some (.int .i64 r2)) (simp [go_sem, World.cell?_alloc_past, *]) (first | (go_at_call 14; refine (toGauss_any _ _ _).mono ?_; rintro e w1 ⟨rfl, c1, c2, c3, rfl⟩) | (go_at_call 31; refine (HI _).mono ?_; rintro e w2 ⟨rfl, hbw2⟩; obtain ⟨hcw2, hfw2, _⟩ := bcell hbw2; have hzw20 : w.heap.size < w2.heap.size := (by have := hbw2.size; simp at this; omega); have hzw21 : w.heap.size + 1 < w2.heap.size := (by have := hbw2.size; simp at this; omega); have hzw22 : g < w2.heap.size := (by have := hbw2.size; simp at this; omega); have hzw23 : k < w2.heap.size := (by have := hbw2.size; simp at this; omega); have HBw2 := Lib.hid hbw2; clear hbw2))
    all_goals (go_wp2_with fail; go_meet)
    all_goals refine ⟨_, _, rfl, rfl, rfl, ?_, ?_, ?_, ?_, ?_, ?_, ?_, ?_, ?_, ?_, ?_, ?_, ?_, ?_, ?_, ?_, ?_, ?_, ?_⟩
    all_goals try (have hh := HBw2.out.size; simp at hh; simp [World.setCell]; omega)
    all_goals try (simp [go_sem, *]; done)
    all_goals try (repeat (first | exact HBc.out | refine b_alloc ?_ _ | refine b_drew ?_ | refine b_set ?_ (by (try simp) <;> omega) _ | refine b_step ?_ HBw2.out))
  case rest =>
  obtain ⟨g2, k2, rfl, rfl, rfl, hm0, hm1, hg2, hk2, d1, d2, d3, d4, b1, b2, b3, b4, hgg, hkk, e1, e2, e3, e4, HB⟩ := hcut
  have HBd := Lib.hid HB
  clear HB HBc a1 a2 a3 a4 c1 c2 c3 c4 HS HI b1 b2 b3 b4 lt1 gt1 kt1 wt1 lt2 gt2 kt2 wt2 lt3 gt3 kt3 wt3 lt4 gt4 kt4 wt4 lt5 gt5 kt5 wt5 lt6 gt6 kt6 wt6 lt7 gt7 kt7 wt7 lt8 gt8 kt8 wt8
  go_wp2
  go_ret
  refine ⟨rfl, ?_⟩
  repeat (first | exact HBd.out | refine b_alloc ?_ _ | refine b_drew ?_)
theorem walk_div (x y : Int) (_ : (Lit.int .i64 x).wf = true) (_ : (Lit.int .i64 y).wf = true) (u v : Int) (_ : (Lit.int .i64 u).wf = true) (_ : (Lit.int .i64 v).wf = true) (w : World) :
    Calls Try.prog 9 #[.agg #[.int .i64 x, .int .i64 y], .agg #[.int .i64 u, .int .i64 v]] w fun e w' => e = .returned (.bool true) ∧ Below w.heap.size w w' := by
  by_cases hg : gok x y
  · have hg' := hg
    obtain ⟨h1, h2, h3, h4⟩ := hg'
    by_cases hh : gok u v
    · have hh' := hh
      obtain ⟨g1, g2, g3, g4⟩ := hh'
      cases e1 : (u == 0) with
      | false => exact walk_div0 x y u v _ _ _ _ true w (fun w => spec_div1 x y u v _ _ _ _ _ _ _ w h1 h2 h3 h4 g1 g2 g3 g4 e1 rfl rfl rfl rfl rfl rfl rfl) (fun w => impl_div1 x y u v _ _ _ _ _ _ _ w h1 h2 h3 h4 g1 g2 g3 g4 e1 rfl rfl rfl rfl rfl rfl rfl)
      | true =>
        cases e2 : (v == 0) with
        | false => exact walk_div0 x y u v _ _ _ _ true w (fun w => spec_div2 x y u v _ _ _ _ _ _ _ w h1 h2 h3 h4 g1 g2 g3 g4 e1 e2 rfl rfl rfl rfl rfl rfl rfl) (fun w => impl_div2 x y u v _ _ _ _ _ _ _ w h1 h2 h3 h4 g1 g2 g3 g4 e1 e2 rfl rfl rfl rfl rfl rfl rfl)
        | true =>
          obtain rfl : u = 0 := by simpa using e1
          obtain rfl : v = 0 := by simpa using e2
          exact walk_div0 x y 0 0 _ _ _ _ false w (fun w => spec_div_zero x y w h1 h2 h3 h4) (fun w => impl_div_zero x y w h1 h2 h3 h4)
    · exact walk_div0 x y u v _ _ _ _ false w (fun w => spec_div_badB x y u v w h1 h2 h3 h4 hh) (fun w => impl_div_badB x y u v w h1 h2 h3 h4 hh)
  · exact walk_div0 x y u v _ _ _ _ false w (fun w => spec_div_badA x y u v w hg) (fun w => impl_div_badA x y u v w hg)
end Go.Proofs.Ythblbmihpgkanaa
