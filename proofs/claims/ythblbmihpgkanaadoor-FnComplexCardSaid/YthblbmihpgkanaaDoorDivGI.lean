/- Contract of impl.DivideGauss. Conditions: the chapter's range. -/
import Derived.Test.YthblbmihpgkanaaDoorGaussNear
import Derived.Deep.RegionHeld3
import Derived.Deep.DeepCutAuto
import Derived.Deep.RegionLaw
import Derived.BigRegion
namespace Go.Proofs.YthblbmihpgkanaaDoor
open Go.RowKit
set_option linter.unusedVariables false

set_option maxRecDepth 100000 in
set_option maxHeartbeats 4000000 in
theorem impl_div1 (x y u v n X Y q1 q2 B1 B2 : Int) (w : World) (h1 : -100000 ≤ x) (h2 : x ≤ 100000) (h3 : -100000 ≤ y) (h4 : y ≤ 100000) (g1 : -100000 ≤ u) (g2 : u ≤ 100000) (g3 : -100000 ≤ v) (g4 : v ≤ 100000) (e1 : (u == 0) = false) (hn : n = u * u + v * v) (hX : X = x * u - y * -v) (hY : Y = x * -v + y * u)
    (hq1 : q1 = (2 * X + n) / (2 * n)) (hq2 : q2 = (2 * Y + n) / (2 * n)) (hB1 : B1 = q1 * u - q2 * v) (hB2 : B2 = q1 * v + q2 * u) :
    Calls Tryd.prog 15 #[.agg #[.int .i64 x, .int .i64 y], .agg #[.int .i64 u, .int .i64 v]] w fun e w' => e = .returned (.tuple #[.agg #[.int .i64 q1, .int .i64 q2], .agg #[.int .i64 (x - B1), .int .i64 (y - B2)], .bool true]) ∧ Below w.heap.size w w' := by
  obtain ⟨p0, qq0⟩ := mul_bd u u g1 g2 g1 g2
  obtain ⟨p1, qq1⟩ := mul_bd v v g3 g4 g3 g4
  obtain ⟨p2, qq2⟩ := mul_bd x u h1 h2 g1 g2
  obtain ⟨p3, qq3⟩ := mul_bd y (-v) h3 h4 (by omega) (by omega)
  obtain ⟨p4, qq4⟩ := mul_bd x (-v) h1 h2 (by omega) (by omega)
  obtain ⟨p5, qq5⟩ := mul_bd y u h3 h4 g1 g2
  have n0 : 1 ≤ n := by rw [hn]; exact sq_pos u v (by rintro ⟨rfl, rfl⟩; simp at e1)
  have n1 : n ≤ 20000000000 := by omega
  have X0 : -20000000000 ≤ X := by omega
  have X1 : X ≤ 20000000000 := by omega
  have Y0 : -20000000000 ≤ Y := by omega
  have Y1 : Y ≤ 20000000000 := by omega
  obtain ⟨⟨q10, q11⟩, ⟨q20, q21⟩, ⟨r10, r11⟩, ⟨r20, r21⟩⟩ := div_small x y u v X Y n q1 q2 h1 h2 h3 h4 hn n0 n1 hX hY hq1 hq2
  rw [← hB1] at r10 r11
  rw [← hB2] at r20 r21
  have HB1 := Lib.hid hB1
  have HB2 := Lib.hid hB2
  have HQ1 := Lib.hid hq1
  have HQ2 := Lib.hid hq2
  have HN := Lib.hid hn
  have HX := Lib.hid hX
  have HY := Lib.hid hY
  clear p0 qq0 p1 qq1 p2 qq2 p3 qq3 p4 qq4 p5 qq5 hn hX hY hB1 hB2 hq1 hq2
  go_enter Tryd.func15, Tryd.ntmps15
  have hnv : IntKind.i64.wrap (-v) = -v := by rw [IntKind.wrap_i64]; omega
  have M1 := Lib.hid (fun W => impl_mul2 x y u (-v) W (by omega) (by omega) (by omega) (by omega) g1 g2 (by omega) (by omega))
  rw [← HX.out, ← HY.out] at M1
  have M2 := Lib.hid (fun W => impl_norm u v W g1 g2 g3 g4)
  rw [← HN.out] at M2
  go_upto_region 3 with (first | (go_at_call 11; with_reducible refine (impl_gok_ok x y _ h1 h2 h3 h4).mono ?_; rintro e w1 ⟨rfl, c1, rfl⟩) | (go_at_call 11; with_reducible refine (impl_gok_ok u v _ g1 g2 g3 g4).mono ?_; rintro e w1 ⟨rfl, c1, rfl⟩))
  go_cut [7, 8] (fun s7 s8 wx => ∃ g, s7 = .pointer (some ⟨g, 0, none⟩) ∧ s8 = .int .i64 n ∧ GB wx g X Y ∧ GB wx w.heap.size x y ∧ GB wx (w.heap.size + 1) u v ∧ GB wx (w.heap.size + 1 + 1) 0 0 ∧ GB wx (w.heap.size + 1 + 1 + 1) 0 0 ∧ w.heap.size + 1 + 1 + 1 < g ∧ Below w.heap.size w wx)
  case first =>
    go_region_held3 (fun w' => w'.cell? ⟨w.heap.size, 0, none⟩ = some (.int .i64 x) ∧ w'.cell? ⟨w.heap.size, 1, none⟩ = some (.int .i64 y) ∧ w'.cell? ⟨w.heap.size + 1, 0, none⟩ = some (.int .i64 u) ∧ w'.cell? ⟨w.heap.size + 1, 1, none⟩ = some (.int .i64 v)) (simp [go_sem, World.cell?_alloc_past, *]) (first | (go_at_call 25; with_reducible refine (M1.out _).mono ?_; rintro e w1 ⟨rfl, c1, c2, c3, rfl⟩) | (go_at_call 10; with_reducible refine (M2.out _).mono ?_; rintro e w1 ⟨rfl, c1, c2, rfl⟩))
    all_goals (go_wp2_with fail; go_meet)
    all_goals refine ⟨_, rfl, rfl, ?_, ?_, ?_, ?_, ?_, ?_, ?_⟩
    all_goals try (repeat (first | (with_reducible refine GB.at _ _ _ _ ?_; simp; done) | with_reducible refine GB.dr ?_ | with_reducible refine GB.up ?_ _))
    all_goals try (first | omega | (simp; omega))
    all_goals try (repeat (first | exact Below.refl _ _ | refine b_alloc ?_ _ | refine b_drew ?_))
  case rest =>
  obtain ⟨g7, rfl, rfl, G7, Gz, Gw, G2, G3, hg7, hb⟩ := hcut
  rename World => wy
  have hsz := hb.size
  have l7 := G7.lt
  have lz := Gz.lt
  have lw := Gw.lt
  have l2 := G2.lt
  have l3 := G3.lt
  have c70 := G7.cell0
  have c71 := G7.cell1
  have HG7 := Lib.hid G7
  have HGz := Lib.hid Gz
  have HGw := Lib.hid Gw
  have HG2 := Lib.hid G2
  have HG3 := Lib.hid G3
  have HB := Lib.hid hb
  clear G7 Gz Gw G2 G3 hb HX HY HN
  go_upto_region 4 with fail
  go_cut [9] (fun s9 wx => ∃ g, s9 = .pointer (some ⟨g, 0, none⟩) ∧ GB wx g q1 q2 ∧ GB wx w.heap.size x y ∧ GB wx (w.heap.size + 1) u v ∧ GB wx (w.heap.size + 1 + 1) 0 0 ∧ GB wx (w.heap.size + 1 + 1 + 1) 0 0 ∧ w.heap.size + 1 + 1 + 1 < g ∧ Below w.heap.size w wx)
  case first =>
    go_region_law (first | (go_simp; go_at_call 27; with_reducible refine (i_near X n _ (by omega) (by omega) n0 (by omega)).mono ?_; rw [← HQ1.out]; rintro e w1 ⟨rfl, rfl⟩) | (go_simp; go_at_call 27; with_reducible refine (i_near Y n _ (by omega) (by omega) n0 (by omega)).mono ?_; rw [← HQ2.out]; rintro e w1 ⟨rfl, rfl⟩))
    all_goals (go_wp2_with fail; go_meet)
    all_goals refine ⟨_, rfl, ?_, ?_, ?_, ?_, ?_, ?_, ?_⟩
    all_goals try (repeat (first | (with_reducible refine GB.at _ _ _ _ ?_; simp; done) | exact HGz.out | exact HGw.out | exact HG2.out | exact HG3.out | with_reducible refine GB.dr ?_ | with_reducible refine GB.up ?_ _))
    all_goals try (first | omega | (simp; omega))
    all_goals try (repeat (first | exact HB.out | refine b_alloc ?_ _ | refine b_drew ?_))
  case rest =>
    obtain ⟨g, rfl, Gq, Gz, Gw, G2, G3, hg, hb⟩ := hcut
    rename World => wx
    clear hsz l7 lz lw l2 l3 c70 c71 hg7 HG7 HGz HGw HG2 HG3 HB
    have hsz := hb.size
    have lq := Gq.lt
    have lz := Gz.lt
    have lw := Gw.lt
    have l2 := G2.lt
    have l3 := G3.lt
    have lq_1 : g < wx.heap.size + 1 := by omega
    have lz_1 : w.heap.size < wx.heap.size + 1 := by omega
    have lw_1 : w.heap.size + 1 < wx.heap.size + 1 := by omega
    have l2_1 : w.heap.size + 1 + 1 < wx.heap.size + 1 := by omega
    have l3_1 : w.heap.size + 1 + 1 + 1 < wx.heap.size + 1 := by omega
    have lq_2 : g < wx.heap.size + 1 + 1 := by omega
    have lz_2 : w.heap.size < wx.heap.size + 1 + 1 := by omega
    have lw_2 : w.heap.size + 1 < wx.heap.size + 1 + 1 := by omega
    have l2_2 : w.heap.size + 1 + 1 < wx.heap.size + 1 + 1 := by omega
    have l3_2 : w.heap.size + 1 + 1 + 1 < wx.heap.size + 1 + 1 := by omega
    have lq_3 : g < wx.heap.size + 1 + 1 + 1 := by omega
    have lz_3 : w.heap.size < wx.heap.size + 1 + 1 + 1 := by omega
    have lw_3 : w.heap.size + 1 < wx.heap.size + 1 + 1 + 1 := by omega
    have l2_3 : w.heap.size + 1 + 1 < wx.heap.size + 1 + 1 + 1 := by omega
    have l3_3 : w.heap.size + 1 + 1 + 1 < wx.heap.size + 1 + 1 + 1 := by omega
    have lq_4 : g < wx.heap.size + 1 + 1 + 1 + 1 := by omega
    have lz_4 : w.heap.size < wx.heap.size + 1 + 1 + 1 + 1 := by omega
    have lw_4 : w.heap.size + 1 < wx.heap.size + 1 + 1 + 1 + 1 := by omega
    have l2_4 : w.heap.size + 1 + 1 < wx.heap.size + 1 + 1 + 1 + 1 := by omega
    have l3_4 : w.heap.size + 1 + 1 + 1 < wx.heap.size + 1 + 1 + 1 + 1 := by omega
    have lq_5 : g < wx.heap.size + 1 + 1 + 1 + 1 + 1 := by omega
    have lz_5 : w.heap.size < wx.heap.size + 1 + 1 + 1 + 1 + 1 := by omega
    have lw_5 : w.heap.size + 1 < wx.heap.size + 1 + 1 + 1 + 1 + 1 := by omega
    have l2_5 : w.heap.size + 1 + 1 < wx.heap.size + 1 + 1 + 1 + 1 + 1 := by omega
    have l3_5 : w.heap.size + 1 + 1 + 1 < wx.heap.size + 1 + 1 + 1 + 1 + 1 := by omega
    have lq_6 : g < wx.heap.size + 1 + 1 + 1 + 1 + 1 + 1 := by omega
    have lz_6 : w.heap.size < wx.heap.size + 1 + 1 + 1 + 1 + 1 + 1 := by omega
    have lw_6 : w.heap.size + 1 < wx.heap.size + 1 + 1 + 1 + 1 + 1 + 1 := by omega
    have l2_6 : w.heap.size + 1 + 1 < wx.heap.size + 1 + 1 + 1 + 1 + 1 + 1 := by omega
    have l3_6 : w.heap.size + 1 + 1 + 1 < wx.heap.size + 1 + 1 + 1 + 1 + 1 + 1 := by omega
    have cq0 := Gq.cell0
    have cq1 := Gq.cell1
    have cz0 := Gz.cell0
    have cz1 := Gz.cell1
    have cw0 := Gw.cell0
    have cw1 := Gw.cell1
    have c20 := G2.cell0
    have c21 := G2.cell1
    have c30 := G3.cell0
    have c31 := G3.cell1
    have f20 := G2.frozen 0
    have f21 := G2.frozen 1
    have f30 := G3.frozen 0
    have f31 := G3.frozen 1
    have HGq := Lib.hid Gq
    have HGz := Lib.hid Gz
    have HGw := Lib.hid Gw
    have HG2 := Lib.hid G2
    have HG3 := Lib.hid G3
    have HB := Lib.hid hb
    clear HQ1 HQ2 Gq Gz Gw G2 G3 hb X0 X1 Y0 Y1 n0 n1
    go_upto_region 9 with (first | (go_at_call 11; with_reducible refine (impl_gok_ok q1 q2 _ q10 q11 q20 q21).mono ?_; rintro e w1 ⟨rfl, c4, rfl⟩) | (go_at_call 11; with_reducible refine (impl_gok_ok (x - B1) (y - B2) _ r10 r11 r20 r21).mono ?_; rintro e w1 ⟨rfl, c5, rfl⟩) | (go_at_call 25; refine (impl_mul2 q1 q2 u v _ (by omega) (by omega) (by omega) (by omega) g1 g2 g3 g4).mono ?_; rw [← HB1.out, ← HB2.out]; rintro e w1 ⟨rfl, c6, c7, c8, rfl⟩))
    refine gen_world (R := fun W => GB W g q1 q2 ∧ GB W (wx.heap.size + 1 + 1 + 1 + 1) (x - B1) (y - B2) ∧ GB W (w.heap.size + 1 + 1) 0 0 ∧ GB W (w.heap.size + 1 + 1 + 1) 0 0 ∧ Below w.heap.size w W) ⟨?_, ?_, ?_, ?_, ?_⟩ ?_
    · exact ((((((HGq.out.up _).up _).up _).up _).up _).up _).up _
    · exact (GB.up (GB.up (GB.at _ _ _ _ (by simp)) _) _)
    · exact ((((((HG2.out.up _).up _).up _).up _).up _).up _).up _
    · exact ((((((HG3.out.up _).up _).up _).up _).up _).up _).up _
    · exact b_alloc (b_alloc (b_alloc (b_alloc (b_alloc (b_alloc (b_alloc HB.out _) _) _) _) _) _) _
    have n1 : g ≠ w.heap.size + 1 + 1 := by omega
    have n2 : g ≠ w.heap.size + 1 + 1 + 1 := by omega
    have n3 : wx.heap.size + 1 + 1 + 1 + 1 ≠ w.heap.size + 1 + 1 := by omega
    have n4 : wx.heap.size + 1 + 1 + 1 + 1 ≠ w.heap.size + 1 + 1 + 1 := by omega
    generalize wx.heap.size + 1 + 1 + 1 + 1 = g' at n3 n4 ⊢
    clear HB HGq HGz HGw HG2 HG3 cq0 cq1 cz0 cz1 cw0 cw1 c20 c21 c30 c31 f20 f21 f30 f31
    rintro W ⟨Gq, Gr, G2, G3, hb⟩
    have cq0 := Gq.cell0
    have cq1 := Gq.cell1
    have cr0 := Gr.cell0
    have cr1 := Gr.cell1
    have c20 := G2.cell0
    have c21 := G2.cell1
    have c30 := G3.cell0
    have c31 := G3.cell1
    have f20 := G2.frozen 0
    have f21 := G2.frozen 1
    have f30 := G3.frozen 0
    have f31 := G3.frozen 1
    have HB := Lib.hid hb
    have HG2 := Lib.hid G2
    have HG3 := Lib.hid G3
    clear Gq Gr G2 G3 hb
    clear hsz lq lz lw l2 l3 hg lq_1 lz_1 lw_1 l2_1 l3_1 lq_2 lz_2 lw_2 l2_2 l3_2 lq_3 lz_3 lw_3 l2_3 l3_3 lq_4 lz_4 lw_4 l2_4 l3_4 lq_5 lz_5 lw_5 l2_5 l3_5 lq_6 lz_6 lw_6 l2_6 l3_6
    go_region
    go_wp2
    have a := (((((HG2.out.set0 q1).set1 q2).setx (p := ⟨w.heap.size + 1 + 1 + 1, 0, none⟩) (by simp) (.int .i64 (x - B1))).setx (p := ⟨w.heap.size + 1 + 1 + 1, 1, none⟩) (by simp) (.int .i64 (y - B2)))).dr
    have b := ((((HG3.out.setx (p := ⟨w.heap.size + 1 + 1, 0, none⟩) (by simp) (.int .i64 q1)).setx (p := ⟨w.heap.size + 1 + 1, 1, none⟩) (by simp) (.int .i64 q2)).set0 (x - B1)).set1 (y - B2)).dr
    have a0 := a.cell0
    have a1 := a.cell1
    have b0 := b.cell0
    have b1 := b.cell1
    clear a b cq0 cq1 cr0 cr1 c20 c21 c30 c31 f20 f21 f30 f31 n1 n2 n3 n4
    refine bodyPost_ret (v := .tuple #[.agg #[.int .i64 q1, .int .i64 q2], .agg #[.int .i64 (x - B1), .int .i64 (y - B2)], .bool true]) ?_ rfl ⟨rfl, ?_⟩
    · simp [results, Tryd.results15, go_sem, a0, a1, b0, b1]
    · exact b_drew (b_set (b_set (b_set (b_set HB.out (by simp; omega) _) (by simp; omega) _) (by simp; omega) _) (by simp; omega) _)
set_option maxRecDepth 100000 in
set_option maxHeartbeats 4000000 in
theorem impl_div2 (x y u v n X Y q1 q2 B1 B2 : Int) (w : World) (h1 : -100000 ≤ x) (h2 : x ≤ 100000) (h3 : -100000 ≤ y) (h4 : y ≤ 100000) (g1 : -100000 ≤ u) (g2 : u ≤ 100000) (g3 : -100000 ≤ v) (g4 : v ≤ 100000) (e1 : (u == 0) = true) (e2 : (v == 0) = false) (hn : n = u * u + v * v) (hX : X = x * u - y * -v) (hY : Y = x * -v + y * u)
    (hq1 : q1 = (2 * X + n) / (2 * n)) (hq2 : q2 = (2 * Y + n) / (2 * n)) (hB1 : B1 = q1 * u - q2 * v) (hB2 : B2 = q1 * v + q2 * u) :
    Calls Tryd.prog 15 #[.agg #[.int .i64 x, .int .i64 y], .agg #[.int .i64 u, .int .i64 v]] w fun e w' => e = .returned (.tuple #[.agg #[.int .i64 q1, .int .i64 q2], .agg #[.int .i64 (x - B1), .int .i64 (y - B2)], .bool true]) ∧ Below w.heap.size w w' := by
  obtain ⟨p0, qq0⟩ := mul_bd u u g1 g2 g1 g2
  obtain ⟨p1, qq1⟩ := mul_bd v v g3 g4 g3 g4
  obtain ⟨p2, qq2⟩ := mul_bd x u h1 h2 g1 g2
  obtain ⟨p3, qq3⟩ := mul_bd y (-v) h3 h4 (by omega) (by omega)
  obtain ⟨p4, qq4⟩ := mul_bd x (-v) h1 h2 (by omega) (by omega)
  obtain ⟨p5, qq5⟩ := mul_bd y u h3 h4 g1 g2
  have n0 : 1 ≤ n := by rw [hn]; exact sq_pos u v (by rintro ⟨rfl, rfl⟩; simp at e1 e2)
  have n1 : n ≤ 20000000000 := by omega
  have X0 : -20000000000 ≤ X := by omega
  have X1 : X ≤ 20000000000 := by omega
  have Y0 : -20000000000 ≤ Y := by omega
  have Y1 : Y ≤ 20000000000 := by omega
  obtain ⟨⟨q10, q11⟩, ⟨q20, q21⟩, ⟨r10, r11⟩, ⟨r20, r21⟩⟩ := div_small x y u v X Y n q1 q2 h1 h2 h3 h4 hn n0 n1 hX hY hq1 hq2
  rw [← hB1] at r10 r11
  rw [← hB2] at r20 r21
  have HB1 := Lib.hid hB1
  have HB2 := Lib.hid hB2
  have HQ1 := Lib.hid hq1
  have HQ2 := Lib.hid hq2
  have HN := Lib.hid hn
  have HX := Lib.hid hX
  have HY := Lib.hid hY
  clear p0 qq0 p1 qq1 p2 qq2 p3 qq3 p4 qq4 p5 qq5 hn hX hY hB1 hB2 hq1 hq2
  go_enter Tryd.func15, Tryd.ntmps15
  have hnv : IntKind.i64.wrap (-v) = -v := by rw [IntKind.wrap_i64]; omega
  have M1 := Lib.hid (fun W => impl_mul2 x y u (-v) W (by omega) (by omega) (by omega) (by omega) g1 g2 (by omega) (by omega))
  rw [← HX.out, ← HY.out] at M1
  have M2 := Lib.hid (fun W => impl_norm u v W g1 g2 g3 g4)
  rw [← HN.out] at M2
  go_upto_region 3 with (first | (go_at_call 11; with_reducible refine (impl_gok_ok x y _ h1 h2 h3 h4).mono ?_; rintro e w1 ⟨rfl, c1, rfl⟩) | (go_at_call 11; with_reducible refine (impl_gok_ok u v _ g1 g2 g3 g4).mono ?_; rintro e w1 ⟨rfl, c1, rfl⟩))
  go_cut [7, 8] (fun s7 s8 wx => ∃ g, s7 = .pointer (some ⟨g, 0, none⟩) ∧ s8 = .int .i64 n ∧ GB wx g X Y ∧ GB wx w.heap.size x y ∧ GB wx (w.heap.size + 1) u v ∧ GB wx (w.heap.size + 1 + 1) 0 0 ∧ GB wx (w.heap.size + 1 + 1 + 1) 0 0 ∧ w.heap.size + 1 + 1 + 1 < g ∧ Below w.heap.size w wx)
  case first =>
    go_region_held3 (fun w' => w'.cell? ⟨w.heap.size, 0, none⟩ = some (.int .i64 x) ∧ w'.cell? ⟨w.heap.size, 1, none⟩ = some (.int .i64 y) ∧ w'.cell? ⟨w.heap.size + 1, 0, none⟩ = some (.int .i64 u) ∧ w'.cell? ⟨w.heap.size + 1, 1, none⟩ = some (.int .i64 v)) (simp [go_sem, World.cell?_alloc_past, *]) (first | (go_at_call 25; with_reducible refine (M1.out _).mono ?_; rintro e w1 ⟨rfl, c1, c2, c3, rfl⟩) | (go_at_call 10; with_reducible refine (M2.out _).mono ?_; rintro e w1 ⟨rfl, c1, c2, rfl⟩))
    all_goals (go_wp2_with fail; go_meet)
    all_goals refine ⟨_, rfl, rfl, ?_, ?_, ?_, ?_, ?_, ?_, ?_⟩
    all_goals try (repeat (first | (with_reducible refine GB.at _ _ _ _ ?_; simp; done) | with_reducible refine GB.dr ?_ | with_reducible refine GB.up ?_ _))
    all_goals try (first | omega | (simp; omega))
    all_goals try (repeat (first | exact Below.refl _ _ | refine b_alloc ?_ _ | refine b_drew ?_))
  case rest =>
  obtain ⟨g7, rfl, rfl, G7, Gz, Gw, G2, G3, hg7, hb⟩ := hcut
  rename World => wy
  have hsz := hb.size
  have l7 := G7.lt
  have lz := Gz.lt
  have lw := Gw.lt
  have l2 := G2.lt
  have l3 := G3.lt
  have c70 := G7.cell0
  have c71 := G7.cell1
  have HG7 := Lib.hid G7
  have HGz := Lib.hid Gz
  have HGw := Lib.hid Gw
  have HG2 := Lib.hid G2
  have HG3 := Lib.hid G3
  have HB := Lib.hid hb
  clear G7 Gz Gw G2 G3 hb HX HY HN
  go_upto_region 4 with fail
  go_cut [9] (fun s9 wx => ∃ g, s9 = .pointer (some ⟨g, 0, none⟩) ∧ GB wx g q1 q2 ∧ GB wx w.heap.size x y ∧ GB wx (w.heap.size + 1) u v ∧ GB wx (w.heap.size + 1 + 1) 0 0 ∧ GB wx (w.heap.size + 1 + 1 + 1) 0 0 ∧ w.heap.size + 1 + 1 + 1 < g ∧ Below w.heap.size w wx)
  case first =>
    go_region_law (first | (go_simp; go_at_call 27; with_reducible refine (i_near X n _ (by omega) (by omega) n0 (by omega)).mono ?_; rw [← HQ1.out]; rintro e w1 ⟨rfl, rfl⟩) | (go_simp; go_at_call 27; with_reducible refine (i_near Y n _ (by omega) (by omega) n0 (by omega)).mono ?_; rw [← HQ2.out]; rintro e w1 ⟨rfl, rfl⟩))
    all_goals (go_wp2_with fail; go_meet)
    all_goals refine ⟨_, rfl, ?_, ?_, ?_, ?_, ?_, ?_, ?_⟩
    all_goals try (repeat (first | (with_reducible refine GB.at _ _ _ _ ?_; simp; done) | exact HGz.out | exact HGw.out | exact HG2.out | exact HG3.out | with_reducible refine GB.dr ?_ | with_reducible refine GB.up ?_ _))
    all_goals try (first | omega | (simp; omega))
    all_goals try (repeat (first | exact HB.out | refine b_alloc ?_ _ | refine b_drew ?_))
  case rest =>
    obtain ⟨g, rfl, Gq, Gz, Gw, G2, G3, hg, hb⟩ := hcut
    rename World => wx
    clear hsz l7 lz lw l2 l3 c70 c71 hg7 HG7 HGz HGw HG2 HG3 HB
    have hsz := hb.size
    have lq := Gq.lt
    have lz := Gz.lt
    have lw := Gw.lt
    have l2 := G2.lt
    have l3 := G3.lt
    have lq_1 : g < wx.heap.size + 1 := by omega
    have lz_1 : w.heap.size < wx.heap.size + 1 := by omega
    have lw_1 : w.heap.size + 1 < wx.heap.size + 1 := by omega
    have l2_1 : w.heap.size + 1 + 1 < wx.heap.size + 1 := by omega
    have l3_1 : w.heap.size + 1 + 1 + 1 < wx.heap.size + 1 := by omega
    have lq_2 : g < wx.heap.size + 1 + 1 := by omega
    have lz_2 : w.heap.size < wx.heap.size + 1 + 1 := by omega
    have lw_2 : w.heap.size + 1 < wx.heap.size + 1 + 1 := by omega
    have l2_2 : w.heap.size + 1 + 1 < wx.heap.size + 1 + 1 := by omega
    have l3_2 : w.heap.size + 1 + 1 + 1 < wx.heap.size + 1 + 1 := by omega
    have lq_3 : g < wx.heap.size + 1 + 1 + 1 := by omega
    have lz_3 : w.heap.size < wx.heap.size + 1 + 1 + 1 := by omega
    have lw_3 : w.heap.size + 1 < wx.heap.size + 1 + 1 + 1 := by omega
    have l2_3 : w.heap.size + 1 + 1 < wx.heap.size + 1 + 1 + 1 := by omega
    have l3_3 : w.heap.size + 1 + 1 + 1 < wx.heap.size + 1 + 1 + 1 := by omega
    have lq_4 : g < wx.heap.size + 1 + 1 + 1 + 1 := by omega
    have lz_4 : w.heap.size < wx.heap.size + 1 + 1 + 1 + 1 := by omega
    have lw_4 : w.heap.size + 1 < wx.heap.size + 1 + 1 + 1 + 1 := by omega
    have l2_4 : w.heap.size + 1 + 1 < wx.heap.size + 1 + 1 + 1 + 1 := by omega
    have l3_4 : w.heap.size + 1 + 1 + 1 < wx.heap.size + 1 + 1 + 1 + 1 := by omega
    have lq_5 : g < wx.heap.size + 1 + 1 + 1 + 1 + 1 := by omega
    have lz_5 : w.heap.size < wx.heap.size + 1 + 1 + 1 + 1 + 1 := by omega
    have lw_5 : w.heap.size + 1 < wx.heap.size + 1 + 1 + 1 + 1 + 1 := by omega
    have l2_5 : w.heap.size + 1 + 1 < wx.heap.size + 1 + 1 + 1 + 1 + 1 := by omega
    have l3_5 : w.heap.size + 1 + 1 + 1 < wx.heap.size + 1 + 1 + 1 + 1 + 1 := by omega
    have lq_6 : g < wx.heap.size + 1 + 1 + 1 + 1 + 1 + 1 := by omega
    have lz_6 : w.heap.size < wx.heap.size + 1 + 1 + 1 + 1 + 1 + 1 := by omega
    have lw_6 : w.heap.size + 1 < wx.heap.size + 1 + 1 + 1 + 1 + 1 + 1 := by omega
    have l2_6 : w.heap.size + 1 + 1 < wx.heap.size + 1 + 1 + 1 + 1 + 1 + 1 := by omega
    have l3_6 : w.heap.size + 1 + 1 + 1 < wx.heap.size + 1 + 1 + 1 + 1 + 1 + 1 := by omega
    have cq0 := Gq.cell0
    have cq1 := Gq.cell1
    have cz0 := Gz.cell0
    have cz1 := Gz.cell1
    have cw0 := Gw.cell0
    have cw1 := Gw.cell1
    have c20 := G2.cell0
    have c21 := G2.cell1
    have c30 := G3.cell0
    have c31 := G3.cell1
    have f20 := G2.frozen 0
    have f21 := G2.frozen 1
    have f30 := G3.frozen 0
    have f31 := G3.frozen 1
    have HGq := Lib.hid Gq
    have HGz := Lib.hid Gz
    have HGw := Lib.hid Gw
    have HG2 := Lib.hid G2
    have HG3 := Lib.hid G3
    have HB := Lib.hid hb
    clear HQ1 HQ2 Gq Gz Gw G2 G3 hb X0 X1 Y0 Y1 n0 n1
    go_upto_region 9 with (first | (go_at_call 11; with_reducible refine (impl_gok_ok q1 q2 _ q10 q11 q20 q21).mono ?_; rintro e w1 ⟨rfl, c4, rfl⟩) | (go_at_call 11; with_reducible refine (impl_gok_ok (x - B1) (y - B2) _ r10 r11 r20 r21).mono ?_; rintro e w1 ⟨rfl, c5, rfl⟩) | (go_at_call 25; refine (impl_mul2 q1 q2 u v _ (by omega) (by omega) (by omega) (by omega) g1 g2 g3 g4).mono ?_; rw [← HB1.out, ← HB2.out]; rintro e w1 ⟨rfl, c6, c7, c8, rfl⟩))
    refine gen_world (R := fun W => GB W g q1 q2 ∧ GB W (wx.heap.size + 1 + 1 + 1 + 1) (x - B1) (y - B2) ∧ GB W (w.heap.size + 1 + 1) 0 0 ∧ GB W (w.heap.size + 1 + 1 + 1) 0 0 ∧ Below w.heap.size w W) ⟨?_, ?_, ?_, ?_, ?_⟩ ?_
    · exact ((((((HGq.out.up _).up _).up _).up _).up _).up _).up _
    · exact (GB.up (GB.up (GB.at _ _ _ _ (by simp)) _) _)
    · exact ((((((HG2.out.up _).up _).up _).up _).up _).up _).up _
    · exact ((((((HG3.out.up _).up _).up _).up _).up _).up _).up _
    · exact b_alloc (b_alloc (b_alloc (b_alloc (b_alloc (b_alloc (b_alloc HB.out _) _) _) _) _) _) _
    have n1 : g ≠ w.heap.size + 1 + 1 := by omega
    have n2 : g ≠ w.heap.size + 1 + 1 + 1 := by omega
    have n3 : wx.heap.size + 1 + 1 + 1 + 1 ≠ w.heap.size + 1 + 1 := by omega
    have n4 : wx.heap.size + 1 + 1 + 1 + 1 ≠ w.heap.size + 1 + 1 + 1 := by omega
    generalize wx.heap.size + 1 + 1 + 1 + 1 = g' at n3 n4 ⊢
    clear HB HGq HGz HGw HG2 HG3 cq0 cq1 cz0 cz1 cw0 cw1 c20 c21 c30 c31 f20 f21 f30 f31
    rintro W ⟨Gq, Gr, G2, G3, hb⟩
    have cq0 := Gq.cell0
    have cq1 := Gq.cell1
    have cr0 := Gr.cell0
    have cr1 := Gr.cell1
    have c20 := G2.cell0
    have c21 := G2.cell1
    have c30 := G3.cell0
    have c31 := G3.cell1
    have f20 := G2.frozen 0
    have f21 := G2.frozen 1
    have f30 := G3.frozen 0
    have f31 := G3.frozen 1
    have HB := Lib.hid hb
    have HG2 := Lib.hid G2
    have HG3 := Lib.hid G3
    clear Gq Gr G2 G3 hb
    clear hsz lq lz lw l2 l3 hg lq_1 lz_1 lw_1 l2_1 l3_1 lq_2 lz_2 lw_2 l2_2 l3_2 lq_3 lz_3 lw_3 l2_3 l3_3 lq_4 lz_4 lw_4 l2_4 l3_4 lq_5 lz_5 lw_5 l2_5 l3_5 lq_6 lz_6 lw_6 l2_6 l3_6
    go_region
    go_wp2
    have a := (((((HG2.out.set0 q1).set1 q2).setx (p := ⟨w.heap.size + 1 + 1 + 1, 0, none⟩) (by simp) (.int .i64 (x - B1))).setx (p := ⟨w.heap.size + 1 + 1 + 1, 1, none⟩) (by simp) (.int .i64 (y - B2)))).dr
    have b := ((((HG3.out.setx (p := ⟨w.heap.size + 1 + 1, 0, none⟩) (by simp) (.int .i64 q1)).setx (p := ⟨w.heap.size + 1 + 1, 1, none⟩) (by simp) (.int .i64 q2)).set0 (x - B1)).set1 (y - B2)).dr
    have a0 := a.cell0
    have a1 := a.cell1
    have b0 := b.cell0
    have b1 := b.cell1
    clear a b cq0 cq1 cr0 cr1 c20 c21 c30 c31 f20 f21 f30 f31 n1 n2 n3 n4
    refine bodyPost_ret (v := .tuple #[.agg #[.int .i64 q1, .int .i64 q2], .agg #[.int .i64 (x - B1), .int .i64 (y - B2)], .bool true]) ?_ rfl ⟨rfl, ?_⟩
    · simp [results, Tryd.results15, go_sem, a0, a1, b0, b1]
    · exact b_drew (b_set (b_set (b_set (b_set HB.out (by simp; omega) _) (by simp; omega) _) (by simp; omega) _) (by simp; omega) _)

end Go.Proofs.YthblbmihpgkanaaDoor
