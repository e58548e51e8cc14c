/- The walk of FnComplex. Conditions: code of at most 2^20 bytes. -/
import Derived.Test.YthblbmihpgkanaaDoorCxI
import Derived.Test.YthblbmihpgkanaaDoorDivB
import Derived.Deep.RegionHeld3
import Derived.IntWalk
import Derived.Deep.DeepCutAuto
namespace Go.Proofs.YthblbmihpgkanaaDoor
open Go.RowKit
set_option linter.unusedVariables false
theorem norm_b (a b : Int) (w : World) (h1 : -100000 ≤ a) (h2 : a ≤ 100000) (h3 : -100000 ≤ b) (h4 : b ≤ 100000) : Calls Tryd.prog 10 #[.agg #[.int .i64 a, .int .i64 b]] w fun e w' => e = .returned (.int .i64 (a * a + b * b)) ∧ Below w.heap.size w w' :=
  (impl_norm a b w h1 h2 h3 h4).mono fun e w' ⟨he, c1, c2, hw⟩ => ⟨he, by subst hw; exact b_alloc (b_alloc (Below.refl _ _) _) _⟩
theorem gok_b (a b : Int) (w : World) (h1 : -100000 ≤ a) (h2 : a ≤ 100000) (h3 : -100000 ≤ b) (h4 : b ≤ 100000) : Calls Tryd.prog 11 #[.agg #[.int .i64 a, .int .i64 b]] w fun e w' => e = .returned (.bool true) ∧ Below w.heap.size w w' :=
  (impl_gok_ok a b w h1 h2 h3 h4).mono fun e w' ⟨he, c1, hw⟩ => ⟨he, by subst hw; exact b_alloc (Below.refl _ _) _⟩
theorem hid_out {p : Prop} (h : Hid p) : p := h.out
def GoB3 (l : List Int) (x y : Int) : Prop := l.length ≤ 1048576 ∧ goX 3 0 2 l = x ∧ goY 3 0 2 l = y ∧ goB 3 0 2 l = true
theorem qB_tmod {x y : Int} (h1 : -30 ≤ x) (h2 : x ≤ 30) (h3 : -30 ≤ y) (h4 : y ≤ 30) : (y.tmod 2 == 0) = qB x y := by
  by_cases e : y % 2 = 0
  · rw [qB_t ⟨by unfold gok; omega, e⟩]; simp [tmod2.2 e]
  · rw [qB_f (fun h => e h.2)]; simp [tmod2, e]
theorem qd_good {x y : Int} (h1 : -30 ≤ x) (h2 : x ≤ 30) (h3 : -30 ≤ y) (h4 : y ≤ 30) (h : qB x y = true) : GoB3 (qdR x y) x y := by
  have e : y % 2 = 0 := Classical.byContradiction fun e => by rw [qB_f (fun h => e h.2)] at h; cases h
  obtain ⟨_, a, b, c, d, _, _⟩ := (qdR_small h1 h2 h3 h4 e).1.goP h1 h2 h3 h4
  exact ⟨by omega, a, b, c⟩
def DF (x y u v q1 q2 r1 r2 : Int) (t : Bool) : Prop := t = !(u == 0 && v == 0) ∧ (t = true → (-100000 ≤ q1 ∧ q1 ≤ 100000 ∧ -100000 ≤ q2 ∧ q2 ≤ 100000) ∧ (-30 ≤ r1 ∧ r1 ≤ 30 ∧ -30 ≤ r2 ∧ r2 ≤ 30) ∧ 2 * (r1 * r1 + r2 * r2) ≤ u * u + v * v ∧ q1 * u - q2 * v + r1 = x ∧ q1 * v + q2 * u + r2 = y)
theorem df_of {x y u v X Y n q1 q2 B1 B2 : Int} (h1 : -30 ≤ x) (h2 : x ≤ 30) (h3 : -30 ≤ y) (h4 : y ≤ 30) (g1 : -30 ≤ u) (g2 : u ≤ 30) (g3 : -30 ≤ v) (g4 : v ≤ 30) (hn : n = u * u + v * v) (n0 : 1 ≤ n)
    (hX : X = x * u - y * -v) (hY : Y = x * -v + y * u) (e1 : q1 = (2 * X + n) / (2 * n)) (e2 : q2 = (2 * Y + n) / (2 * n)) (hB1 : B1 = q1 * u - q2 * v) (hB2 : B2 = q1 * v + q2 * u) (hz : (u == 0 && v == 0) = false) : DF x y u v q1 q2 (x - B1) (y - B2) true := by
  obtain ⟨a, b, c, d, e⟩ := div_facts x y u v X Y n q1 q2 h1 h2 h3 h4 g1 g2 g3 g4 hn n0 hX hY e1 e2 (x - B1) (y - B2) (by rw [hB1]) (by rw [hB2])
  exact ⟨by rw [hz]; rfl, fun _ => ⟨⟨a.1, a.2, b.1, b.2⟩, ⟨c.1, c.2, d.1, d.2⟩, e, by omega, by omega⟩⟩
theorem div_any {x y u v : Int} (h1 : -30 ≤ x) (h2 : x ≤ 30) (h3 : -30 ≤ y) (h4 : y ≤ 30) (g1 : -30 ≤ u) (g2 : u ≤ 30) (g3 : -30 ≤ v) (g4 : v ≤ 30) :
    ∃ q1 q2 r1 r2 t, DF x y u v q1 q2 r1 r2 t ∧ ∀ w : World, Calls Tryd.prog 15 #[.agg #[.int .i64 x, .int .i64 y], .agg #[.int .i64 u, .int .i64 v]] w fun e w' => e = .returned (.tuple #[.agg #[.int .i64 q1, .int .i64 q2], .agg #[.int .i64 r1, .int .i64 r2], .bool t]) ∧ Below w.heap.size w w' := by
  have su := sq_nn u
  have sv := sq_nn v
  cases e1 : (u == 0) with
  | false =>
    have n0 : 1 ≤ u * u + v * v := by have : u * u ≠ 0 := by simpa using e1
                                      omega
    exact ⟨_, _, _, _, true, df_of h1 h2 h3 h4 g1 g2 g3 g4 rfl n0 rfl rfl rfl rfl rfl rfl (by rw [e1]; rfl), fun w => impl_div1 x y u v _ _ _ _ _ _ _ w (by omega) (by omega) (by omega) (by omega) (by omega) (by omega) (by omega) (by omega) e1 rfl rfl rfl rfl rfl rfl rfl⟩
  | true =>
    cases e2 : (v == 0) with
    | false =>
      have n0 : 1 ≤ u * u + v * v := by have : v * v ≠ 0 := by simpa using e2
                                        omega
      exact ⟨_, _, _, _, true, df_of h1 h2 h3 h4 g1 g2 g3 g4 rfl n0 rfl rfl rfl rfl rfl rfl (by rw [e1, e2]; rfl), fun w => impl_div2 x y u v _ _ _ _ _ _ _ w (by omega) (by omega) (by omega) (by omega) (by omega) (by omega) (by omega) (by omega) e1 e2 rfl rfl rfl rfl rfl rfl rfl⟩
    | true =>
      obtain rfl : u = 0 := by simpa using e1
      obtain rfl : v = 0 := by simpa using e2
      exact ⟨0, 0, 0, 0, false, ⟨rfl, fun h => by cases h⟩, fun w => impl_div_zero x y w (by omega) (by omega) (by omega) (by omega)⟩
theorem ok01 : digOk 1 (-1) 1 [0, 1] (-1) 1 := by decide
theorem gof01 (g : Nat) (w : World) (h : w.heap[g]? = some (.cells #[.int .i64 0, .int .i64 1] 3 (0, 0))) :
    Calls Tryd.prog 7 #[.slice (some ⟨g, 0, none⟩) 2 2] w fun e w' => e = .returned (.tuple #[.agg #[.int .i64 (-1), .int .i64 1], .bool true]) ∧ Below w.heap.size w w' := by
  obtain ⟨_, a, b, c, _⟩ := ok01.goP (by omega) (by omega) (by omega) (by omega)
  have hB : BI w g #[.int .i64 0, .int .i64 1] := h
  refine (i_GaussOf (some ⟨g, 0, none⟩) [0, 1] 2 w (RI.of_fill hB ?_) (by simp)).mono fun e w' hg => ?_
  · intro j hj
    have : j = 0 ∨ j = 1 := by simp at hj; omega
    rcases this with rfl | rfl <;> rfl
  · unfold GoR at hg
    rw [a, b, c] at hg
    exact hg
theorem gd_zero3 {x y : Int} {l : List Int} (h : gdR x y = l) (hz : l = [] → x = 0 ∧ y = 0) :
    ((x == 0) = false ∧ ((l.length : Int) == 0) = false) ∨ ((x == 0) = true ∧ (y == 0) = false ∧ ((l.length : Int) == 0) = false) ∨ ((x == 0) = true ∧ (y == 0) = true ∧ ((l.length : Int) == 0) = true) := by
  by_cases e : x = 0 ∧ y = 0
  · obtain ⟨rfl, rfl⟩ := e
    have : gdR 0 0 = [] := by rw [gdR_t (by unfold gok; omega)]; decide +kernel
    rw [this] at h; subst h; exact .inr (.inr ⟨rfl, rfl, rfl⟩)
  · have hl : l ≠ [] := fun h => e (hz h)
    have hl' : l.length ≠ 0 := by simpa using hl
    have e1 : ((l.length : Int) == 0) = false := by simp; omega
    by_cases ex : x = 0
    · subst ex
      exact .inr (.inl ⟨rfl, by simp; simpa using e, e1⟩)
    · exact .inl ⟨by simpa using ex, e1⟩
set_option maxRecDepth 100000 in
set_option maxHeartbeats 80000000 in
theorem law_cx0 (A : Option Addr) (zs : List Int) (cz : Nat) (w : World) (RC : RY w w.heap.size A zs) (hl : zs.length ≤ 1048576) :
    Calls Tryd.prog 3 #[.slice A zs.length cz] w fun e w' => e = .returned (.bool true) ∧ Below w.heap.size w w' := by
  have T0 : Below w.heap.size w w := Below.refl _ _
  go_enter Tryd.func3, Tryd.ntmps3
  go_wp2_with fail
  refine (makeG_any A zs cz 0 _ (RC.more (by omega)) hl (by omega)).mono ?_
  rintro e w1 ⟨x, y, rfl, hS, hb1⟩
  have T1 := b_step T0 hb1
  have sz1 := hb1.size
  have RC_1 := RC.below (hb1.mono (by omega))
  clear hb1
  obtain ⟨x1, x2, y1, y2⟩ := hS
  have hb2 : Below w1.heap.size w1 (w1.alloc (.cells #[.int .i64 (x), .int .i64 (y)] 24)) := b_alloc (Below.refl _ _) _
  have T2 := b_step T1 hb2
  have sz2 := hb2.size
  have RC_2 := RC_1.below (hb2.mono (by omega))
  clear hb2 RC_1
  have Z_2 := BG.new w1 (x) (y)
  go_wp2_with fail
  refine (makeG_any A zs cz 10 _ (RC_2.more (by omega)) hl (by omega)).mono ?_
  rintro e w3 ⟨u, v, rfl, hS, hb3⟩
  have T3 := b_step T2 hb3
  have sz3 := hb3.size
  have RC_3 := RC_2.below (hb3.mono (by omega))
  have Z_3 := Z_2.below hb3 Z_2.lt
  clear hb3 RC_2 Z_2
  obtain ⟨u1, u2, v1, v2⟩ := hS
  have hb4 : Below w3.heap.size w3 (w3.alloc (.cells #[.int .i64 (u), .int .i64 (v)] 24)) := b_alloc (Below.refl _ _) _
  have T4 := b_step T3 hb4
  have sz4 := hb4.size
  have RC_4 := RC_3.below (hb4.mono (by omega))
  have Z_4 := Z_3.below hb4 Z_3.lt
  clear hb4 RC_3 Z_3
  have V_4 := BG.new w3 (u) (v)
  obtain ⟨ds, hds⟩ : ∃ ds, gdR x y = ds := ⟨_, rfl⟩
  have HG := Lib.hid ((gdR_small x1 x2 y1 y2).goP x1 x2 y1 y2)
  rw [hds] at HG
  have HDS := Lib.hid hds
  clear hds
  have ld : ds.length ≤ 40 := HG.out.2.2.2.2.1
  have m1 := mul30 x1 x2 u1 u2
  have m2 := mul30 y1 y2 v1 v2
  have m3 := mul30 x1 x2 v1 v2
  have m4 := mul30 y1 y2 u1 u2
  obtain ⟨p1, hp1⟩ : ∃ p, x * u - y * v = p := ⟨_, rfl⟩
  obtain ⟨p2, hp2⟩ : ∃ p, x * v + y * u = p := ⟨_, rfl⟩
  have pb : -1800 ≤ p1 ∧ p1 ≤ 1800 ∧ -1800 ≤ p2 ∧ p2 ≤ 1800 := by omega
  obtain ⟨pb1, pb2, pb3, pb4⟩ := pb
  obtain ⟨nz, hnz⟩ : ∃ n, x * x + y * y = n := ⟨_, rfl⟩
  obtain ⟨nw, hnw⟩ : ∃ n, u * u + v * v = n := ⟨_, rfl⟩
  have hnp : p1 * p1 + p2 * p2 = nz * nw := by rw [← hp1, ← hp2, ← hnz, ← hnw]; grind
  have nb : 0 ≤ nz ∧ nz ≤ 1800 ∧ 0 ≤ nw ∧ nw ≤ 1800 := by have a1 := sq30 x1 x2; have a2 := sq30 y1 y2; have a3 := sq30 u1 u2; have a4 := sq30 v1 v2; omega
  obtain ⟨nb1, nb2, nb3, nb4⟩ := nb
  obtain ⟨np, hnp0⟩ : ∃ n, nz * nw = n := ⟨_, rfl⟩
  have npb : 0 ≤ np ∧ np ≤ 3240000 := by rw [← hnp0]; exact ⟨Int.mul_nonneg nb1 nb3, Int.mul_le_mul nb2 nb4 nb3 (by omega)⟩
  obtain ⟨npb1, npb2⟩ := npb
  rw [hnp0] at hnp
  have HP1 := Lib.hid hp1
  have HP2 := Lib.hid hp2
  have HNZ := Lib.hid hnz
  have HNW := Lib.hid hnw
  have HNP := Lib.hid hnp
  have HNM := Lib.hid hnp0
  have M1 := Lib.hid m1
  have M2 := Lib.hid m2
  have M3 := Lib.hid m3
  have M4 := Lib.hid m4
  clear hp1 hp2 hnz hnw hnp hnp0 m1 m2 m3 m4
  have cZ0 := Z_4.cell0
  have cZ1 := Z_4.cell1
  go_wp2_with fail
  clear cZ0 cZ1
  skip
  refine (i_gdig x y _).mono ?_
  rw [HDS.out]
  rintro e w5 ⟨Da, cd, rfl, hO, hb5⟩
  have T5 := b_step T4 hb5
  have sz5 := hb5.size
  have RC_5 := RC_4.below (hb5.mono (by omega))
  have Z_5 := Z_4.below hb5 Z_4.lt
  have V_5 := V_4.below hb5 V_4.lt
  clear hb5 RC_4 Z_4 V_4
  have D0_5 := hO
  clear hO
  go_wp2_with fail
  skip
  refine (i_GaussOf Da ds cd _ (D0_5.reads) (by omega)).mono ?_
  unfold GoR
  rw [HG.out.2.1, HG.out.2.2.1, HG.out.2.2.2.1]
  rintro e w6 ⟨rfl, hb6⟩
  have T6 := b_step T5 hb6
  have sz6 := hb6.size
  have RC_6 := RC_5.below (hb6.mono (by omega))
  have Z_6 := Z_5.below hb6 Z_5.lt
  have V_6 := V_5.below hb6 V_5.lt
  have D0_6 := D0_5.keep hb6
  clear hb6 RC_5 Z_5 V_5 D0_5
  have hb7 : Below w6.heap.size w6 (w6.alloc (.cells #[.int .i64 (x), .int .i64 (y)] 24)) := b_alloc (Below.refl _ _) _
  have T7 := b_step T6 hb7
  have sz7 := hb7.size
  have RC_7 := RC_6.below (hb7.mono (by omega))
  have Z_7 := Z_6.below hb7 Z_6.lt
  have V_7 := V_6.below hb7 V_6.lt
  have D0_7 := D0_6.keep hb7
  clear hb7 RC_6 Z_6 V_6 D0_6
  have X_7 := BG.new w6 (x) (y)
  have cZ0 := Z_7.cell0
  have cZ1 := Z_7.cell1
  have cV0 := V_7.cell0
  have cV1 := V_7.cell1
  go_wp2_with fail
  clear cZ0 cZ1 cV0 cV1
  skip
  refine (impl_times_ok x y u v _ (by omega) (by omega) (by omega) (by omega) (by omega) (by omega) (by omega) (by omega) (by have := M1.out; have := M2.out; omega) (by have := M1.out; have := M2.out; omega) (by have := M3.out; have := M4.out; omega) (by have := M3.out; have := M4.out; omega)).mono ?_
  rw [HP1.out, HP2.out]
  rintro e w8 ⟨rfl, hb8⟩
  have T8 := b_step T7 hb8
  have sz8 := hb8.size
  have RC_8 := RC_7.below (hb8.mono (by omega))
  have Z_8 := Z_7.below hb8 Z_7.lt
  have V_8 := V_7.below hb8 V_7.lt
  have D0_8 := D0_7.keep hb8
  have X_8 := X_7.below hb8 X_7.lt
  clear hb8 RC_7 Z_7 V_7 D0_7 X_7
  have hb9 : Below w8.heap.size w8 (w8.alloc (.cells #[.int .i64 (p1), .int .i64 (p2)] 24)) := b_alloc (Below.refl _ _) _
  have T9 := b_step T8 hb9
  have sz9 := hb9.size
  have RC_9 := RC_8.below (hb9.mono (by omega))
  have Z_9 := Z_8.below hb9 Z_8.lt
  have V_9 := V_8.below hb9 V_8.lt
  have D0_9 := D0_8.keep hb9
  have X_9 := X_8.below hb9 X_8.lt
  clear hb9 RC_8 Z_8 V_8 D0_8 X_8
  have P_9 := BG.new w8 (p1) (p2)
  obtain ⟨s1, hs1⟩ : ∃ s, x + u = s := ⟨_, rfl⟩
  obtain ⟨s2, hs2⟩ : ∃ s, y + v = s := ⟨_, rfl⟩
  have sb : -60 ≤ s1 ∧ s1 ≤ 60 ∧ -60 ≤ s2 ∧ s2 ≤ 60 := by omega
  obtain ⟨sb1, sb2, sb3, sb4⟩ := sb
  have HS1 := Lib.hid hs1
  have HS2 := Lib.hid hs2
  clear hs1 hs2
  have cZ0 := Z_9.cell0
  have cZ1 := Z_9.cell1
  have cV0 := V_9.cell0
  have cV1 := V_9.cell1
  go_wp2_with fail
  clear cZ0 cZ1 cV0 cV1
  skip
  refine (impl_add_ok x y u v _ (by omega) (by omega) (by omega) (by omega) (by omega) (by omega) (by omega) (by omega) (by omega) (by omega) (by omega) (by omega)).mono ?_
  rw [HS1.out, HS2.out]
  rintro e w10 ⟨rfl, hb10⟩
  have T10 := b_step T9 hb10
  have sz10 := hb10.size
  have RC_10 := RC_9.below (hb10.mono (by omega))
  have Z_10 := Z_9.below hb10 Z_9.lt
  have V_10 := V_9.below hb10 V_9.lt
  have D0_10 := D0_9.keep hb10
  have X_10 := X_9.below hb10 X_9.lt
  have P_10 := P_9.below hb10 P_9.lt
  clear hb10 RC_9 Z_9 V_9 D0_9 X_9 P_9
  have hb11 : Below w10.heap.size w10 (w10.alloc (.cells #[.int .i64 (s1), .int .i64 (s2)] 24)) := b_alloc (Below.refl _ _) _
  have T11 := b_step T10 hb11
  have sz11 := hb11.size
  have RC_11 := RC_10.below (hb11.mono (by omega))
  have Z_11 := Z_10.below hb11 Z_10.lt
  have V_11 := V_10.below hb11 V_10.lt
  have D0_11 := D0_10.keep hb11
  have X_11 := X_10.below hb11 X_10.lt
  have P_11 := P_10.below hb11 P_10.lt
  clear hb11 RC_10 Z_10 V_10 D0_10 X_10 P_10
  have S_11 := BG.new w10 (s1) (s2)
  have cS0 := S_11.cell0
  have cS1 := S_11.cell1
  have cV0 := V_11.cell0
  have cV1 := V_11.cell1
  go_wp2_with fail
  clear cS0 cS1 cV0 cV1
  skip
  refine (impl_add_ok s1 s2 (-u) (-v) _ (by omega) (by omega) (by omega) (by omega) (by omega) (by omega) (by omega) (by omega) (by omega) (by omega) (by omega) (by omega)).mono ?_
  rw [show s1 + -u = x by have := HS1.out; omega, show s2 + -v = y by have := HS2.out; omega]
  rintro e w12 ⟨rfl, hb12⟩
  have T12 := b_step T11 hb12
  have sz12 := hb12.size
  have RC_12 := RC_11.below (hb12.mono (by omega))
  have Z_12 := Z_11.below hb12 Z_11.lt
  have V_12 := V_11.below hb12 V_11.lt
  have D0_12 := D0_11.keep hb12
  have X_12 := X_11.below hb12 X_11.lt
  have P_12 := P_11.below hb12 P_11.lt
  have S_12 := S_11.below hb12 S_11.lt
  clear hb12 RC_11 Z_11 V_11 D0_11 X_11 P_11 S_11
  have hb13 : Below w12.heap.size w12 (w12.alloc (.cells #[.int .i64 (x), .int .i64 (y)] 24)) := b_alloc (Below.refl _ _) _
  have T13 := b_step T12 hb13
  have sz13 := hb13.size
  have RC_13 := RC_12.below (hb13.mono (by omega))
  have Z_13 := Z_12.below hb13 Z_12.lt
  have V_13 := V_12.below hb13 V_12.lt
  have D0_13 := D0_12.keep hb13
  have X_13 := X_12.below hb13 X_12.lt
  have P_13 := P_12.below hb13 P_12.lt
  have S_13 := S_12.below hb13 S_12.lt
  clear hb13 RC_12 Z_12 V_12 D0_12 X_12 P_12 S_12
  have K_13 := BG.new w12 (x) (y)
  clear S_13
  go_upto_region 10 with fail
  refine gen_world (fun w' => Below ((w12.alloc (.cells #[.int .i64 (x), .int .i64 (y)] 24))).heap.size ((w12.alloc (.cells #[.int .i64 (x), .int .i64 (y)] 24))) w') (Below.refl _ _) fun w14 hb14 => ?_
  have T14 := b_step T13 hb14
  have sz14 := hb14.size
  have RC_14 := RC_13.below (hb14.mono (by omega))
  have Z_14 := Z_13.below hb14 Z_13.lt
  have V_14 := V_13.below hb14 V_13.lt
  have D0_14 := D0_13.keep hb14
  have X_14 := X_13.below hb14 X_13.lt
  have P_14 := P_13.below hb14 P_13.lt
  have K_14 := K_13.below hb14 K_13.lt
  clear hb14 RC_13 Z_13 V_13 D0_13 X_13 P_13 K_13
  go_cut [115] from 68 to 115 (fun s115 wx => s115 = .bool false ∧ Below w14.heap.size w14 wx)
  case first =>
    have cX0 := X_14.cell0
    have cX1 := X_14.cell1
    have cZ0 := Z_14.cell0
    have cZ1 := Z_14.cell1
    have cK0 := K_14.cell0
    have cK1 := K_14.cell1
    have cP0 := P_14.cell0
    have cP1 := P_14.cell1
    have cV0 := V_14.cell0
    have cV1 := V_14.cell1
    have ltX := X_14.lt
    have ltZ := Z_14.lt
    have ltK := K_14.lt
    have ltP := P_14.lt
    have ltV := V_14.lt
    have Hnp : Hid (∀ w : World, Calls Tryd.prog 10 #[.agg #[.int .i64 p1, .int .i64 p2]] w fun e w' => e = .returned (.int .i64 np) ∧ Below w.heap.size w w') := by rw [← HNP.out]; exact fun w => norm_b p1 p2 w (by omega) (by omega) (by omega) (by omega)
    have Hnz : Hid (∀ w : World, Calls Tryd.prog 10 #[.agg #[.int .i64 x, .int .i64 y]] w fun e w' => e = .returned (.int .i64 nz) ∧ Below w.heap.size w w') := by rw [← HNZ.out]; exact fun w => norm_b x y w (by omega) (by omega) (by omega) (by omega)
    have Hnw : Hid (∀ w : World, Calls Tryd.prog 10 #[.agg #[.int .i64 u, .int .i64 v]] w fun e w' => e = .returned (.int .i64 nw) ∧ Below w.heap.size w w') := by rw [← HNW.out]; exact fun w => norm_b u v w (by omega) (by omega) (by omega) (by omega)
    have hz3 := gd_zero3 HDS.out HG.out.2.2.2.2.2.2
    have hwr : IntKind.i64.wrap (nz * nw) = np := by rw [HNM.out]; exact IntWalk.i64_in _ (by omega)
    rcases hz3 with ⟨hza, hzl⟩ | ⟨hza, hzb, hzl⟩ | ⟨hza, hzb, hzl⟩
    all_goals as_aux_lemma =>
      go_region_held3 (fun w' => w'.cell? ⟨w6.heap.size, 0, none⟩ = some (.int .i64 (x)) ∧ w'.cell? ⟨w6.heap.size, 1, none⟩ = some (.int .i64 (y)) ∧ w'.cell? ⟨w1.heap.size, 0, none⟩ = some (.int .i64 (x)) ∧ w'.cell? ⟨w1.heap.size, 1, none⟩ = some (.int .i64 (y)) ∧ w'.cell? ⟨w12.heap.size, 0, none⟩ = some (.int .i64 (x)) ∧ w'.cell? ⟨w12.heap.size, 1, none⟩ = some (.int .i64 (y)) ∧ w'.cell? ⟨w8.heap.size, 0, none⟩ = some (.int .i64 (p1)) ∧ w'.cell? ⟨w8.heap.size, 1, none⟩ = some (.int .i64 (p2)) ∧ w'.cell? ⟨w3.heap.size, 0, none⟩ = some (.int .i64 (u)) ∧ w'.cell? ⟨w3.heap.size, 1, none⟩ = some (.int .i64 (v))) (refine ⟨?_, ?_, ?_, ?_, ?_, ?_, ?_, ?_, ?_, ?_⟩ <;> assumption) (first | (go_at_call 11; ((with_reducible refine (gok_b p1 p2 _ (by omega) (by omega) (by omega) (by omega)).mono ?_); rintro e w2 ⟨rfl, hbw2⟩; obtain ⟨hcw2, _, _⟩ := bcell hbw2; have hzX2 : w6.heap.size < w2.heap.size := (by have := hbw2.size; (try simp at this); omega); have hzZ2 : w1.heap.size < w2.heap.size := (by have := hbw2.size; (try simp at this); omega); have hzK2 : w12.heap.size < w2.heap.size := (by have := hbw2.size; (try simp at this); omega); have hzP2 : w8.heap.size < w2.heap.size := (by have := hbw2.size; (try simp at this); omega); have hzV2 : w3.heap.size < w2.heap.size := (by have := hbw2.size; (try simp at this); omega); have kX0 : w2.cell? ⟨w6.heap.size, 0, none⟩ = some (.int .i64 (x)) := (hcw2 _ _ (by assumption)).trans (by assumption); have kX1 : w2.cell? ⟨w6.heap.size, 1, none⟩ = some (.int .i64 (y)) := (hcw2 _ _ (by assumption)).trans (by assumption); have kZ0 : w2.cell? ⟨w1.heap.size, 0, none⟩ = some (.int .i64 (x)) := (hcw2 _ _ (by assumption)).trans (by assumption); have kZ1 : w2.cell? ⟨w1.heap.size, 1, none⟩ = some (.int .i64 (y)) := (hcw2 _ _ (by assumption)).trans (by assumption); have kK0 : w2.cell? ⟨w12.heap.size, 0, none⟩ = some (.int .i64 (x)) := (hcw2 _ _ (by assumption)).trans (by assumption); have kK1 : w2.cell? ⟨w12.heap.size, 1, none⟩ = some (.int .i64 (y)) := (hcw2 _ _ (by assumption)).trans (by assumption); have kP0 : w2.cell? ⟨w8.heap.size, 0, none⟩ = some (.int .i64 (p1)) := (hcw2 _ _ (by assumption)).trans (by assumption); have kP1 : w2.cell? ⟨w8.heap.size, 1, none⟩ = some (.int .i64 (p2)) := (hcw2 _ _ (by assumption)).trans (by assumption); have kV0 : w2.cell? ⟨w3.heap.size, 0, none⟩ = some (.int .i64 (u)) := (hcw2 _ _ (by assumption)).trans (by assumption); have kV1 : w2.cell? ⟨w3.heap.size, 1, none⟩ = some (.int .i64 (v)) := (hcw2 _ _ (by assumption)).trans (by assumption); have HBw2 := Lib.hid hbw2; clear hbw2 hcw2)) | (go_at_call 10; ((with_reducible refine (Hnp.out _).mono ?_); rintro e w2 ⟨rfl, hbw2⟩; obtain ⟨hcw2, _, _⟩ := bcell hbw2; have hzX2 : w6.heap.size < w2.heap.size := (by have := hbw2.size; (try simp at this); omega); have hzZ2 : w1.heap.size < w2.heap.size := (by have := hbw2.size; (try simp at this); omega); have hzK2 : w12.heap.size < w2.heap.size := (by have := hbw2.size; (try simp at this); omega); have hzP2 : w8.heap.size < w2.heap.size := (by have := hbw2.size; (try simp at this); omega); have hzV2 : w3.heap.size < w2.heap.size := (by have := hbw2.size; (try simp at this); omega); have kX0 : w2.cell? ⟨w6.heap.size, 0, none⟩ = some (.int .i64 (x)) := (hcw2 _ _ (by assumption)).trans (by assumption); have kX1 : w2.cell? ⟨w6.heap.size, 1, none⟩ = some (.int .i64 (y)) := (hcw2 _ _ (by assumption)).trans (by assumption); have kZ0 : w2.cell? ⟨w1.heap.size, 0, none⟩ = some (.int .i64 (x)) := (hcw2 _ _ (by assumption)).trans (by assumption); have kZ1 : w2.cell? ⟨w1.heap.size, 1, none⟩ = some (.int .i64 (y)) := (hcw2 _ _ (by assumption)).trans (by assumption); have kK0 : w2.cell? ⟨w12.heap.size, 0, none⟩ = some (.int .i64 (x)) := (hcw2 _ _ (by assumption)).trans (by assumption); have kK1 : w2.cell? ⟨w12.heap.size, 1, none⟩ = some (.int .i64 (y)) := (hcw2 _ _ (by assumption)).trans (by assumption); have kP0 : w2.cell? ⟨w8.heap.size, 0, none⟩ = some (.int .i64 (p1)) := (hcw2 _ _ (by assumption)).trans (by assumption); have kP1 : w2.cell? ⟨w8.heap.size, 1, none⟩ = some (.int .i64 (p2)) := (hcw2 _ _ (by assumption)).trans (by assumption); have kV0 : w2.cell? ⟨w3.heap.size, 0, none⟩ = some (.int .i64 (u)) := (hcw2 _ _ (by assumption)).trans (by assumption); have kV1 : w2.cell? ⟨w3.heap.size, 1, none⟩ = some (.int .i64 (v)) := (hcw2 _ _ (by assumption)).trans (by assumption); have HBw2 := Lib.hid hbw2; clear hbw2 hcw2)) | (go_at_call 10; ((with_reducible refine (Hnz.out _).mono ?_); rintro e w2 ⟨rfl, hbw2⟩; obtain ⟨hcw2, _, _⟩ := bcell hbw2; have hzX2 : w6.heap.size < w2.heap.size := (by have := hbw2.size; (try simp at this); omega); have hzZ2 : w1.heap.size < w2.heap.size := (by have := hbw2.size; (try simp at this); omega); have hzK2 : w12.heap.size < w2.heap.size := (by have := hbw2.size; (try simp at this); omega); have hzP2 : w8.heap.size < w2.heap.size := (by have := hbw2.size; (try simp at this); omega); have hzV2 : w3.heap.size < w2.heap.size := (by have := hbw2.size; (try simp at this); omega); have kX0 : w2.cell? ⟨w6.heap.size, 0, none⟩ = some (.int .i64 (x)) := (hcw2 _ _ (by assumption)).trans (by assumption); have kX1 : w2.cell? ⟨w6.heap.size, 1, none⟩ = some (.int .i64 (y)) := (hcw2 _ _ (by assumption)).trans (by assumption); have kZ0 : w2.cell? ⟨w1.heap.size, 0, none⟩ = some (.int .i64 (x)) := (hcw2 _ _ (by assumption)).trans (by assumption); have kZ1 : w2.cell? ⟨w1.heap.size, 1, none⟩ = some (.int .i64 (y)) := (hcw2 _ _ (by assumption)).trans (by assumption); have kK0 : w2.cell? ⟨w12.heap.size, 0, none⟩ = some (.int .i64 (x)) := (hcw2 _ _ (by assumption)).trans (by assumption); have kK1 : w2.cell? ⟨w12.heap.size, 1, none⟩ = some (.int .i64 (y)) := (hcw2 _ _ (by assumption)).trans (by assumption); have kP0 : w2.cell? ⟨w8.heap.size, 0, none⟩ = some (.int .i64 (p1)) := (hcw2 _ _ (by assumption)).trans (by assumption); have kP1 : w2.cell? ⟨w8.heap.size, 1, none⟩ = some (.int .i64 (p2)) := (hcw2 _ _ (by assumption)).trans (by assumption); have kV0 : w2.cell? ⟨w3.heap.size, 0, none⟩ = some (.int .i64 (u)) := (hcw2 _ _ (by assumption)).trans (by assumption); have kV1 : w2.cell? ⟨w3.heap.size, 1, none⟩ = some (.int .i64 (v)) := (hcw2 _ _ (by assumption)).trans (by assumption); have HBw2 := Lib.hid hbw2; clear hbw2 hcw2)) | (go_at_call 10; ((with_reducible refine (Hnw.out _).mono ?_); rintro e w2 ⟨rfl, hbw2⟩; obtain ⟨hcw2, _, _⟩ := bcell hbw2; have hzX2 : w6.heap.size < w2.heap.size := (by have := hbw2.size; (try simp at this); omega); have hzZ2 : w1.heap.size < w2.heap.size := (by have := hbw2.size; (try simp at this); omega); have hzK2 : w12.heap.size < w2.heap.size := (by have := hbw2.size; (try simp at this); omega); have hzP2 : w8.heap.size < w2.heap.size := (by have := hbw2.size; (try simp at this); omega); have hzV2 : w3.heap.size < w2.heap.size := (by have := hbw2.size; (try simp at this); omega); have kX0 : w2.cell? ⟨w6.heap.size, 0, none⟩ = some (.int .i64 (x)) := (hcw2 _ _ (by assumption)).trans (by assumption); have kX1 : w2.cell? ⟨w6.heap.size, 1, none⟩ = some (.int .i64 (y)) := (hcw2 _ _ (by assumption)).trans (by assumption); have kZ0 : w2.cell? ⟨w1.heap.size, 0, none⟩ = some (.int .i64 (x)) := (hcw2 _ _ (by assumption)).trans (by assumption); have kZ1 : w2.cell? ⟨w1.heap.size, 1, none⟩ = some (.int .i64 (y)) := (hcw2 _ _ (by assumption)).trans (by assumption); have kK0 : w2.cell? ⟨w12.heap.size, 0, none⟩ = some (.int .i64 (x)) := (hcw2 _ _ (by assumption)).trans (by assumption); have kK1 : w2.cell? ⟨w12.heap.size, 1, none⟩ = some (.int .i64 (y)) := (hcw2 _ _ (by assumption)).trans (by assumption); have kP0 : w2.cell? ⟨w8.heap.size, 0, none⟩ = some (.int .i64 (p1)) := (hcw2 _ _ (by assumption)).trans (by assumption); have kP1 : w2.cell? ⟨w8.heap.size, 1, none⟩ = some (.int .i64 (p2)) := (hcw2 _ _ (by assumption)).trans (by assumption); have kV0 : w2.cell? ⟨w3.heap.size, 0, none⟩ = some (.int .i64 (u)) := (hcw2 _ _ (by assumption)).trans (by assumption); have kV1 : w2.cell? ⟨w3.heap.size, 1, none⟩ = some (.int .i64 (v)) := (hcw2 _ _ (by assumption)).trans (by assumption); have HBw2 := Lib.hid hbw2; clear hbw2 hcw2)))
      all_goals (go_wp2_with fail; go_meet)
      all_goals refine ⟨by first | rfl | (simp; done), ?_⟩
      all_goals repeat (first | exact Below.refl _ _ | refine b_drew ?_ | refine b_step ?_ (hid_out (by assumption)))
  case rest =>
  rename World => w15
  obtain ⟨rfl, hb15⟩ := hcut
  have T15 := b_step T14 hb15
  have sz15 := hb15.size
  have RC_15 := RC_14.below (hb15.mono (by omega))
  have Z_15 := Z_14.below hb15 Z_14.lt
  have V_15 := V_14.below hb15 V_14.lt
  have D0_15 := D0_14.keep hb15
  have X_15 := X_14.below hb15 X_14.lt
  have P_15 := P_14.below hb15 P_14.lt
  have K_15 := K_14.below hb15 K_14.lt
  clear hb15 RC_14 Z_14 V_14 D0_14 X_14 P_14 K_14
  clear X_15
  clear P_15
  clear K_15
  have HD01 := Lib.hid (fun d hd => HG.out.2.2.2.2.2.1 d hd : ∀ d ∈ ds, (0 : Int) ≤ d ∧ d ≤ 1)
  clear HG HDS HS1 HS2 HNP HNM M1 M2 M3 M4 HP1 HP2
  clear sb1 sb2 sb3 sb4 pb1 pb2 pb3 pb4 npb1 npb2
  go_wp2_with fail
  go_loop [118] (fun i => ∃ k : Nat, k ≤ ds.length ∧ i = .int .i64 k) (fun i => ds.length - (intOf i).toNat)
  case atStart => exact ⟨0, Nat.zero_le _, rfl⟩
  case round =>
  obtain ⟨k, hk, rfl⟩ := hrel
  by_cases hlt : k < ds.length
  · obtain ⟨bb, off, hA, hbb, hc⟩ := (D0_15.reads).at_ hlt
    have hd := HD01.out _ (getD_mem hlt)
    obtain ⟨d, hde⟩ : ∃ d, ds.getD k 0 = d := ⟨_, rfl⟩
    rw [hde] at hc hd
    clear hde
    subst hA
    have h01 : d = 0 ∨ d = 1 := by omega
    clear hd
    rcases h01 with rfl | rfl
    all_goals (go_wp2; go_round)
    all_goals (first | (case rel => exact ⟨k + 1, by omega, by go_num⟩) | skip)
    all_goals (simp [intOf]; omega)
  obtain rfl : k = ds.length := by omega
  clear hlt hk HD01
  clear D0_15
  have cZ0 := Z_15.cell0
  have cZ1 := Z_15.cell1
  go_wp2_with fail
  clear cZ0 cZ1
  skip
  refine (impl_turn_ok x y _ (by omega) (by omega) (by omega) (by omega)).mono ?_
  rintro e w16 ⟨rfl, hb16⟩
  have T16 := b_step T15 hb16
  have sz16 := hb16.size
  have RC_16 := RC_15.below (hb16.mono (by omega))
  have Z_16 := Z_15.below hb16 Z_15.lt
  have V_16 := V_15.below hb16 V_15.lt
  clear hb16 RC_15 Z_15 V_15
  go_wp2_with fail
  skip
  refine (impl_turn_ok (-y) x _ (by omega) (by omega) (by omega) (by omega)).mono ?_
  rintro e w17 ⟨rfl, hb17⟩
  have T17 := b_step T16 hb17
  have sz17 := hb17.size
  have RC_17 := RC_16.below (hb17.mono (by omega))
  have Z_17 := Z_16.below hb17 Z_16.lt
  have V_17 := V_16.below hb17 V_16.lt
  clear hb17 RC_16 Z_16 V_16
  have hb18 : Below w17.heap.size w17 (w17.alloc (.cells #[.int .i64 (-x), .int .i64 (-y)] 24)) := b_alloc (Below.refl _ _) _
  have T18 := b_step T17 hb18
  have sz18 := hb18.size
  have RC_18 := RC_17.below (hb18.mono (by omega))
  have Z_18 := Z_17.below hb18 Z_17.lt
  have V_18 := V_17.below hb18 V_17.lt
  clear hb18 RC_17 Z_17 V_17
  have T_18 := BG.new w17 (-x) (-y)
  obtain ⟨te, hte⟩ : ∃ t, qB x y = t := ⟨_, rfl⟩
  obtain ⟨es, hes⟩ : ∃ l, qdR x y = l := ⟨_, rfl⟩
  have HT := Lib.hid (show te = true → GoB3 es x y from fun h => by rw [← hes]; exact qd_good x1 x2 y1 y2 (by rw [hte]; exact h))
  have HQ := Lib.hid (And.intro hte hes)
  have hte0 := qB_tmod x1 x2 y1 y2
  rw [hte] at hte0
  have HTE := Lib.hid hte0
  clear hte hes hte0
  have cZ0 := Z_18.cell0
  have cZ1 := Z_18.cell1
  go_wp2_with fail
  clear cZ0 cZ1
  skip
  refine (i_qdig x y _).mono ?_
  rw [HQ.out.1, HQ.out.2]
  rintro e w19 ⟨Ea, ce, rfl, hO, hb19⟩
  have T19 := b_step T18 hb19
  have sz19 := hb19.size
  have RC_19 := RC_18.below (hb19.mono (by omega))
  have Z_19 := Z_18.below hb19 Z_18.lt
  have V_19 := V_18.below hb19 V_18.lt
  have T_19 := T_18.below hb19 T_18.lt
  clear hb19 RC_18 Z_18 V_18 T_18
  have E0_19 := hO
  clear hO HQ
  have hte1 := HTE.out
  have cZ0 := Z_19.cell0
  have cZ1 := Z_19.cell1
  go_upto_if 143 with fail
  go_cut [] from 144 to 155 (fun wx => Below w19.heap.size w19 wx)
  case first =>
    cases te
    · go_wp2
      go_meet
      exact Below.refl _ _
    · have g := HT.out rfl
      go_wp2_with fail
      refine (i_QuaterOf Ea es ce _ (E0_19.reads) g.1).mono ?_
      unfold GoR
      rw [g.2.1, g.2.2.1, g.2.2.2]
      rintro e w2 ⟨rfl, hbw2⟩
      have hzz := Z_19.below hbw2 Z_19.lt
      have hza := hzz.alloc (.cells #[.int .i64 x, .int .i64 y] 24)
      have hzn := BG.new w2 x y
      have d0 := hza.cell0
      have d1 := hza.cell1
      have f0 := hzn.cell0
      have f1 := hzn.cell1
      clear hza hzn hzz g
      go_wp2
      go_meet
      exact b_alloc hbw2 _
  case rest =>
  rename World => w20
  have hb20 := hcut
  clear hcut
  have T20 := b_step T19 hb20
  have sz20 := hb20.size
  have RC_20 := RC_19.below (hb20.mono (by omega))
  have Z_20 := Z_19.below hb20 Z_19.lt
  have V_20 := V_19.below hb20 V_19.lt
  have T_20 := T_19.below hb20 T_19.lt
  have E0_20 := E0_19.keep hb20
  clear hb20 RC_19 Z_19 V_19 T_19 E0_19
  clear E0_20
  clear HT HTE hte1 cZ0 cZ1
  obtain ⟨q1, q2, r1, r2, t, hdf, hdc⟩ := div_any (x := x) (y := y) (u := u) (v := v) (by omega) (by omega) (by omega) (by omega) (by omega) (by omega) (by omega) (by omega)
  have DFH := Lib.hid hdf
  have HDC := Lib.hid hdc
  clear hdf hdc
  have cZ0 := Z_20.cell0
  have cZ1 := Z_20.cell1
  have cV0 := V_20.cell0
  have cV1 := V_20.cell1
  go_upto_region 26 with fail
  go_cut [21, 22, 23] (fun s21 s22 s23 wx => ∃ g k : Nat, s21 = .pointer (some ⟨g, 0, none⟩) ∧ s22 = .pointer (some ⟨k, 0, none⟩) ∧ s23 = .bool t ∧ w20.heap.size ≤ g ∧ w20.heap.size ≤ k ∧ BG wx g q1 q2 ∧ BG wx k r1 r2 ∧ Below w20.heap.size w20 wx)
  case first =>
    go_wp2_with fail
    refine (HDC.out _).mono ?_
    rintro e w2 ⟨rfl, hbw2⟩
    go_wp2
    go_meet
    have hn2 := BG.new (w2.alloc (.cells #[.int .i64 q1, .int .i64 q2] 24)) r1 r2
    rw [World.size_alloc] at hn2
    exact ⟨_, _, rfl, rfl, rfl, hbw2.size, Nat.le_succ_of_le hbw2.size, (BG.new w2 q1 q2).alloc _, hn2, b_alloc (b_alloc hbw2 _) _⟩
  clear cZ0 cZ1 cV0 cV1
  case rest =>
  rename World => w21
  obtain ⟨gq, gr, rfl, rfl, rfl, lq, lr, hq, hr, hb21⟩ := hcut
  have T21 := b_step T20 hb21
  have sz21 := hb21.size
  have RC_21 := RC_20.below (hb21.mono (by omega))
  have Z_21 := Z_20.below hb21 Z_20.lt
  have V_21 := V_20.below hb21 V_20.lt
  have T_21 := T_20.below hb21 T_20.lt
  clear hb21 RC_20 Z_20 V_20 T_20
  have Q_21 := hq
  have R_21 := hr
  clear hq hr
  have cV0 := V_21.cell0
  have cV1 := V_21.cell1
  go_upto_region 27 with fail
  go_cut [167] (fun s167 wx => s167 = .bool false ∧ Below w21.heap.size w21 wx)
  case first =>
    have hdt := DFH.out.1
    clear DFH
    cases hu0 : (u == 0) <;> cases hv0 : (v == 0) <;> rw [hu0, hv0] at hdt <;> simp only [Bool.and_self, Bool.and_false, Bool.false_and, Bool.not_false, Bool.not_true] at hdt <;> subst hdt
    all_goals (go_wp2; go_meet; exact ⟨rfl, Below.refl _ _⟩)
  case rest =>
  rename World => w22
  obtain ⟨rfl, hb22⟩ := hcut
  have T22 := b_step T21 hb22
  have sz22 := hb22.size
  have RC_22 := RC_21.below (hb22.mono (by omega))
  have Z_22 := Z_21.below hb22 Z_21.lt
  have V_22 := V_21.below hb22 V_21.lt
  have T_22 := T_21.below hb22 T_21.lt
  have Q_22 := Q_21.below hb22 Q_21.lt
  have R_22 := R_21.below hb22 R_21.lt
  clear hb22 RC_21 Z_21 V_21 T_21 Q_21 R_21
  clear cV0 cV1
  go_upto_if 168 with fail
  go_cut [] from 169 to 199 (fun wx => Below w22.heap.size w22 wx)
  case first =>
    cases t
    · go_wp2
      go_meet
      exact Below.refl _ _
    · obtain ⟨⟨qb1, qb2, qb3, qb4⟩, ⟨rb1, rb2, rb3, rb4⟩, hle, hm1, hm2⟩ := DFH.out.2 rfl
      obtain ⟨m1, e1⟩ : ∃ m, q1 * u - q2 * v = m := ⟨_, rfl⟩
      obtain ⟨m2, e2⟩ : ∃ m, q1 * v + q2 * u = m := ⟨_, rfl⟩
      rw [e1] at hm1
      rw [e2] at hm2
      have HE1 := Lib.hid e1
      have HE2 := Lib.hid e2
      obtain ⟨nr, hnr⟩ : ∃ n, r1 * r1 + r2 * r2 = n := ⟨_, rfl⟩
      rw [hnr, HNW.out] at hle
      have HNR := Lib.hid hnr
      have a1 := sq_nn r1
      have a2 := sq_nn r2
      have nr0 : 0 ≤ nr := by omega
      clear a1 a2 hnr e1 e2
      have mb : -100000 ≤ m1 ∧ m1 ≤ 100000 ∧ -100000 ≤ m2 ∧ m2 ≤ 100000 := by omega
      obtain ⟨mb1, mb2, mb3, mb4⟩ := mb
      have HM1 := Lib.hid hm1
      have HM2 := Lib.hid hm2
      clear hm1 hm2
      have T22 : Below w22.heap.size w22 w22 := Below.refl _ _
      have cQ0 := Q_22.cell0
      have cQ1 := Q_22.cell1
      have cV0 := V_22.cell0
      have cV1 := V_22.cell1
      go_wp2_with fail
      clear cQ0 cQ1 cV0 cV1
      skip
      refine (impl_times_ok q1 q2 u v _ (by omega) (by omega) (by omega) (by omega) (by omega) (by omega) (by omega) (by omega) (by rw [HE1.out]; omega) (by rw [HE1.out]; omega) (by rw [HE2.out]; omega) (by rw [HE2.out]; omega)).mono ?_
      rw [HE1.out, HE2.out]
      rintro e w23 ⟨rfl, hb23⟩
      have T23 := b_step T22 hb23
      have sz23 := hb23.size
      have RC_23 := RC_22.below (hb23.mono (by omega))
      have Z_23 := Z_22.below hb23 Z_22.lt
      have V_23 := V_22.below hb23 V_22.lt
      have T_23 := T_22.below hb23 T_22.lt
      have Q_23 := Q_22.below hb23 Q_22.lt
      have R_23 := R_22.below hb23 R_22.lt
      clear hb23 RC_22 Z_22 V_22 T_22 Q_22 R_22
      have hb24 : Below w23.heap.size w23 (w23.alloc (.cells #[.int .i64 (m1), .int .i64 (m2)] 24)) := b_alloc (Below.refl _ _) _
      have T24 := b_step T23 hb24
      have sz24 := hb24.size
      have RC_24 := RC_23.below (hb24.mono (by omega))
      have Z_24 := Z_23.below hb24 Z_23.lt
      have V_24 := V_23.below hb24 V_23.lt
      have T_24 := T_23.below hb24 T_23.lt
      have Q_24 := Q_23.below hb24 Q_23.lt
      have R_24 := R_23.below hb24 R_23.lt
      clear hb24 RC_23 Z_23 V_23 T_23 Q_23 R_23
      have M_24 := BG.new w23 (m1) (m2)
      have cM0 := M_24.cell0
      have cM1 := M_24.cell1
      have cR0 := R_24.cell0
      have cR1 := R_24.cell1
      go_wp2_with fail
      clear cM0 cM1 cR0 cR1
      skip
      refine (impl_add_ok m1 m2 r1 r2 _ (by omega) (by omega) (by omega) (by omega) (by omega) (by omega) (by omega) (by omega) (by rw [HM1.out]; omega) (by rw [HM1.out]; omega) (by rw [HM2.out]; omega) (by rw [HM2.out]; omega)).mono ?_
      rw [HM1.out, HM2.out]
      rintro e w25 ⟨rfl, hb25⟩
      have T25 := b_step T24 hb25
      have sz25 := hb25.size
      have RC_25 := RC_24.below (hb25.mono (by omega))
      have Z_25 := Z_24.below hb25 Z_24.lt
      have V_25 := V_24.below hb25 V_24.lt
      have T_25 := T_24.below hb25 T_24.lt
      have Q_25 := Q_24.below hb25 Q_24.lt
      have R_25 := R_24.below hb25 R_24.lt
      have M_25 := M_24.below hb25 M_24.lt
      clear hb25 RC_24 Z_24 V_24 T_24 Q_24 R_24 M_24
      have hb26 : Below w25.heap.size w25 (w25.alloc (.cells #[.int .i64 (x), .int .i64 (y)] 24)) := b_alloc (Below.refl _ _) _
      have T26 := b_step T25 hb26
      have sz26 := hb26.size
      have RC_26 := RC_25.below (hb26.mono (by omega))
      have Z_26 := Z_25.below hb26 Z_25.lt
      have V_26 := V_25.below hb26 V_25.lt
      have T_26 := T_25.below hb26 T_25.lt
      have Q_26 := Q_25.below hb26 Q_25.lt
      have R_26 := R_25.below hb26 R_25.lt
      have M_26 := M_25.below hb26 M_25.lt
      clear hb26 RC_25 Z_25 V_25 T_25 Q_25 R_25 M_25
      have N_26 := BG.new w25 (x) (y)
      go_upto_region 32 with fail
      refine gen_world (fun w' => Below ((w25.alloc (.cells #[.int .i64 (x), .int .i64 (y)] 24))).heap.size ((w25.alloc (.cells #[.int .i64 (x), .int .i64 (y)] 24))) w') (Below.refl _ _) fun w27 hb27 => ?_
      have T27 := b_step T26 hb27
      have sz27 := hb27.size
      have RC_27 := RC_26.below (hb27.mono (by omega))
      have Z_27 := Z_26.below hb27 Z_26.lt
      have V_27 := V_26.below hb27 V_26.lt
      have T_27 := T_26.below hb27 T_26.lt
      have Q_27 := Q_26.below hb27 Q_26.lt
      have R_27 := R_26.below hb27 R_26.lt
      have M_27 := M_26.below hb27 M_26.lt
      have N_27 := N_26.below hb27 N_26.lt
      clear hb27 RC_26 Z_26 V_26 T_26 Q_26 R_26 M_26 N_26
      have cN0 := N_27.cell0
      have cN1 := N_27.cell1
      have cZ0 := Z_27.cell0
      have cZ1 := Z_27.cell1
      have cR0 := R_27.cell0
      have cR1 := R_27.cell1
      have cV0 := V_27.cell0
      have cV1 := V_27.cell1
      have ltN := N_27.lt
      have ltZ := Z_27.lt
      have ltR := R_27.lt
      have ltV := V_27.lt
      have Hnr : Hid (∀ w : World, Calls Tryd.prog 10 #[.agg #[.int .i64 r1, .int .i64 r2]] w fun e w' => e = .returned (.int .i64 nr) ∧ Below w.heap.size w w') := by rw [← HNR.out]; exact fun w => norm_b r1 r2 w (by omega) (by omega) (by omega) (by omega)
      have Hnw : Hid (∀ w : World, Calls Tryd.prog 10 #[.agg #[.int .i64 u, .int .i64 v]] w fun e w' => e = .returned (.int .i64 nw) ∧ Below w.heap.size w w') := by rw [← HNW.out]; exact fun w => norm_b u v w (by omega) (by omega) (by omega) (by omega)
      have hwr : IntKind.i64.wrap (2 * nr) = 2 * nr := IntWalk.i64_in _ (by omega)
      have hle2 : ¬ (nw < 2 * nr) := by omega
      as_aux_lemma =>
        go_region_held3 (fun w' => w'.cell? ⟨w25.heap.size, 0, none⟩ = some (.int .i64 (x)) ∧ w'.cell? ⟨w25.heap.size, 1, none⟩ = some (.int .i64 (y)) ∧ w'.cell? ⟨w1.heap.size, 0, none⟩ = some (.int .i64 (x)) ∧ w'.cell? ⟨w1.heap.size, 1, none⟩ = some (.int .i64 (y)) ∧ w'.cell? ⟨gr, 0, none⟩ = some (.int .i64 (r1)) ∧ w'.cell? ⟨gr, 1, none⟩ = some (.int .i64 (r2)) ∧ w'.cell? ⟨w3.heap.size, 0, none⟩ = some (.int .i64 (u)) ∧ w'.cell? ⟨w3.heap.size, 1, none⟩ = some (.int .i64 (v))) (refine ⟨?_, ?_, ?_, ?_, ?_, ?_, ?_, ?_⟩ <;> assumption) (first | (go_at_call 10; ((with_reducible refine (Hnr.out _).mono ?_); rintro e w2 ⟨rfl, hbw2⟩; obtain ⟨hcw2, _, _⟩ := bcell hbw2; have hzN2 : w25.heap.size < w2.heap.size := (by have := hbw2.size; (try simp at this); omega); have hzZ2 : w1.heap.size < w2.heap.size := (by have := hbw2.size; (try simp at this); omega); have hzR2 : gr < w2.heap.size := (by have := hbw2.size; (try simp at this); omega); have hzV2 : w3.heap.size < w2.heap.size := (by have := hbw2.size; (try simp at this); omega); have kN0 : w2.cell? ⟨w25.heap.size, 0, none⟩ = some (.int .i64 (x)) := (hcw2 _ _ (by assumption)).trans (by assumption); have kN1 : w2.cell? ⟨w25.heap.size, 1, none⟩ = some (.int .i64 (y)) := (hcw2 _ _ (by assumption)).trans (by assumption); have kZ0 : w2.cell? ⟨w1.heap.size, 0, none⟩ = some (.int .i64 (x)) := (hcw2 _ _ (by assumption)).trans (by assumption); have kZ1 : w2.cell? ⟨w1.heap.size, 1, none⟩ = some (.int .i64 (y)) := (hcw2 _ _ (by assumption)).trans (by assumption); have kR0 : w2.cell? ⟨gr, 0, none⟩ = some (.int .i64 (r1)) := (hcw2 _ _ (by assumption)).trans (by assumption); have kR1 : w2.cell? ⟨gr, 1, none⟩ = some (.int .i64 (r2)) := (hcw2 _ _ (by assumption)).trans (by assumption); have kV0 : w2.cell? ⟨w3.heap.size, 0, none⟩ = some (.int .i64 (u)) := (hcw2 _ _ (by assumption)).trans (by assumption); have kV1 : w2.cell? ⟨w3.heap.size, 1, none⟩ = some (.int .i64 (v)) := (hcw2 _ _ (by assumption)).trans (by assumption); have HBw2 := Lib.hid hbw2; clear hbw2 hcw2)) | (go_at_call 10; ((with_reducible refine (Hnw.out _).mono ?_); rintro e w2 ⟨rfl, hbw2⟩; obtain ⟨hcw2, _, _⟩ := bcell hbw2; have hzN2 : w25.heap.size < w2.heap.size := (by have := hbw2.size; (try simp at this); omega); have hzZ2 : w1.heap.size < w2.heap.size := (by have := hbw2.size; (try simp at this); omega); have hzR2 : gr < w2.heap.size := (by have := hbw2.size; (try simp at this); omega); have hzV2 : w3.heap.size < w2.heap.size := (by have := hbw2.size; (try simp at this); omega); have kN0 : w2.cell? ⟨w25.heap.size, 0, none⟩ = some (.int .i64 (x)) := (hcw2 _ _ (by assumption)).trans (by assumption); have kN1 : w2.cell? ⟨w25.heap.size, 1, none⟩ = some (.int .i64 (y)) := (hcw2 _ _ (by assumption)).trans (by assumption); have kZ0 : w2.cell? ⟨w1.heap.size, 0, none⟩ = some (.int .i64 (x)) := (hcw2 _ _ (by assumption)).trans (by assumption); have kZ1 : w2.cell? ⟨w1.heap.size, 1, none⟩ = some (.int .i64 (y)) := (hcw2 _ _ (by assumption)).trans (by assumption); have kR0 : w2.cell? ⟨gr, 0, none⟩ = some (.int .i64 (r1)) := (hcw2 _ _ (by assumption)).trans (by assumption); have kR1 : w2.cell? ⟨gr, 1, none⟩ = some (.int .i64 (r2)) := (hcw2 _ _ (by assumption)).trans (by assumption); have kV0 : w2.cell? ⟨w3.heap.size, 0, none⟩ = some (.int .i64 (u)) := (hcw2 _ _ (by assumption)).trans (by assumption); have kV1 : w2.cell? ⟨w3.heap.size, 1, none⟩ = some (.int .i64 (v)) := (hcw2 _ _ (by assumption)).trans (by assumption); have HBw2 := Lib.hid hbw2; clear hbw2 hcw2)))
        all_goals (go_wp2_with fail; go_meet)
        all_goals refine b_step T27 ?_
        all_goals repeat (first | exact Below.refl _ _ | refine b_drew ?_ | refine b_step ?_ (hid_out (by assumption)))
  case rest =>
  rename World => w23
  have hb23 := hcut
  clear hcut
  have T23 := b_step T22 hb23
  have sz23 := hb23.size
  have RC_23 := RC_22.below (hb23.mono (by omega))
  have Z_23 := Z_22.below hb23 Z_22.lt
  have V_23 := V_22.below hb23 V_22.lt
  have T_23 := T_22.below hb23 T_22.lt
  have Q_23 := Q_22.below hb23 Q_22.lt
  have R_23 := R_22.below hb23 R_22.lt
  clear hb23 RC_22 Z_22 V_22 T_22 Q_22 R_22
  clear V_23
  clear Q_23
  clear R_23
  clear DFH HDC HNW lq lr
  go_wp2_with fail
  refine (gof01 w23.heap.size _ (heap_alloc_new w23 _)).mono ?_
  rintro e wy ⟨rfl, hby⟩
  have hb24 : Below w23.heap.size w23 wy := b_step (b_alloc (Below.refl _ _) (.cells #[.int .i64 0, .int .i64 1] 3)) hby
  clear hby
  have T24 := b_step T23 hb24
  have sz24 := hb24.size
  have RC_24 := RC_23.below (hb24.mono (by omega))
  have Z_24 := Z_23.below hb24 Z_23.lt
  have T_24 := T_23.below hb24 T_23.lt
  clear hb24 RC_23 Z_23 T_23
  have hb25 : Below wy.heap.size wy (wy.alloc (.cells #[.int .i64 (-1), .int .i64 (1)] 24)) := b_alloc (Below.refl _ _) _
  have T25 := b_step T24 hb25
  have sz25 := hb25.size
  have RC_25 := RC_24.below (hb25.mono (by omega))
  have Z_25 := Z_24.below hb25 Z_24.lt
  have T_25 := T_24.below hb25 T_24.lt
  clear hb25 RC_24 Z_24 T_24
  have B_25 := BG.new wy (-1) (1)
  go_upto_region 35 with fail
  refine gen_world (fun w' => Below ((wy.alloc (.cells #[.int .i64 (-1), .int .i64 (1)] 24))).heap.size ((wy.alloc (.cells #[.int .i64 (-1), .int .i64 (1)] 24))) w') (Below.refl _ _) fun w26 hb26 => ?_
  have T26 := b_step T25 hb26
  have sz26 := hb26.size
  have RC_26 := RC_25.below (hb26.mono (by omega))
  have Z_26 := Z_25.below hb26 Z_25.lt
  have T_26 := T_25.below hb26 T_25.lt
  have B_26 := B_25.below hb26 B_25.lt
  clear hb26 RC_25 Z_25 T_25 B_25
  have cT0 := T_26.cell0
  have cT1 := T_26.cell1
  have cZ0 := Z_26.cell0
  have cZ1 := Z_26.cell1
  have cB0 := B_26.cell0
  have cB1 := B_26.cell1
  have ltT := T_26.lt
  have ltZ := Z_26.lt
  have ltB := B_26.lt
  have Hnz : Hid (∀ w : World, Calls Tryd.prog 10 #[.agg #[.int .i64 x, .int .i64 y]] w fun e w' => e = .returned (.int .i64 nz) ∧ Below w.heap.size w w') := by rw [← HNZ.out]; exact fun w => norm_b x y w (by omega) (by omega) (by omega) (by omega)
  have hwx : IntKind.i64.wrap (-x) = -x := IntWalk.i64_in _ (by omega)
  have hwy : IntKind.i64.wrap (-y) = -y := IntWalk.i64_in _ (by omega)
  have Hnq : Hid (∀ w : World, Calls Tryd.prog 10 #[.agg #[.int .i64 (-y), .int .i64 x]] w fun e w' => e = .returned (.int .i64 nz) ∧ Below w.heap.size w w') := by rw [show nz = -y * -y + x * x by rw [← HNZ.out]; grind]; exact fun w => norm_b (-y) x w (by omega) (by omega) (by omega) (by omega)
  as_aux_lemma =>
    go_region_held3 (fun w' => w'.cell? ⟨w17.heap.size, 0, none⟩ = some (.int .i64 (-x)) ∧ w'.cell? ⟨w17.heap.size, 1, none⟩ = some (.int .i64 (-y)) ∧ w'.cell? ⟨w1.heap.size, 0, none⟩ = some (.int .i64 (x)) ∧ w'.cell? ⟨w1.heap.size, 1, none⟩ = some (.int .i64 (y)) ∧ w'.cell? ⟨wy.heap.size, 0, none⟩ = some (.int .i64 (-1)) ∧ w'.cell? ⟨wy.heap.size, 1, none⟩ = some (.int .i64 (1))) (refine ⟨?_, ?_, ?_, ?_, ?_, ?_⟩ <;> assumption) (first | (go_at_call 12; ((with_reducible refine (impl_turn_ok x y _ (by omega) (by omega) (by omega) (by omega)).mono ?_); rintro e w2 ⟨rfl, hbw2⟩; obtain ⟨hcw2, _, _⟩ := bcell hbw2; have hzT2 : w17.heap.size < w2.heap.size := (by have := hbw2.size; (try simp at this); omega); have hzZ2 : w1.heap.size < w2.heap.size := (by have := hbw2.size; (try simp at this); omega); have hzB2 : wy.heap.size < w2.heap.size := (by have := hbw2.size; (try simp at this); omega); have kT0 : w2.cell? ⟨w17.heap.size, 0, none⟩ = some (.int .i64 (-x)) := (hcw2 _ _ (by assumption)).trans (by assumption); have kT1 : w2.cell? ⟨w17.heap.size, 1, none⟩ = some (.int .i64 (-y)) := (hcw2 _ _ (by assumption)).trans (by assumption); have kZ0 : w2.cell? ⟨w1.heap.size, 0, none⟩ = some (.int .i64 (x)) := (hcw2 _ _ (by assumption)).trans (by assumption); have kZ1 : w2.cell? ⟨w1.heap.size, 1, none⟩ = some (.int .i64 (y)) := (hcw2 _ _ (by assumption)).trans (by assumption); have kB0 : w2.cell? ⟨wy.heap.size, 0, none⟩ = some (.int .i64 (-1)) := (hcw2 _ _ (by assumption)).trans (by assumption); have kB1 : w2.cell? ⟨wy.heap.size, 1, none⟩ = some (.int .i64 (1)) := (hcw2 _ _ (by assumption)).trans (by assumption); have HBw2 := Lib.hid hbw2; clear hbw2 hcw2)) | (go_at_call 10; ((with_reducible refine (Hnq.out _).mono ?_); rintro e w2 ⟨rfl, hbw2⟩; obtain ⟨hcw2, _, _⟩ := bcell hbw2; have hzT2 : w17.heap.size < w2.heap.size := (by have := hbw2.size; (try simp at this); omega); have hzZ2 : w1.heap.size < w2.heap.size := (by have := hbw2.size; (try simp at this); omega); have hzB2 : wy.heap.size < w2.heap.size := (by have := hbw2.size; (try simp at this); omega); have kT0 : w2.cell? ⟨w17.heap.size, 0, none⟩ = some (.int .i64 (-x)) := (hcw2 _ _ (by assumption)).trans (by assumption); have kT1 : w2.cell? ⟨w17.heap.size, 1, none⟩ = some (.int .i64 (-y)) := (hcw2 _ _ (by assumption)).trans (by assumption); have kZ0 : w2.cell? ⟨w1.heap.size, 0, none⟩ = some (.int .i64 (x)) := (hcw2 _ _ (by assumption)).trans (by assumption); have kZ1 : w2.cell? ⟨w1.heap.size, 1, none⟩ = some (.int .i64 (y)) := (hcw2 _ _ (by assumption)).trans (by assumption); have kB0 : w2.cell? ⟨wy.heap.size, 0, none⟩ = some (.int .i64 (-1)) := (hcw2 _ _ (by assumption)).trans (by assumption); have kB1 : w2.cell? ⟨wy.heap.size, 1, none⟩ = some (.int .i64 (1)) := (hcw2 _ _ (by assumption)).trans (by assumption); have HBw2 := Lib.hid hbw2; clear hbw2 hcw2)) | (go_at_call 10; ((with_reducible refine (Hnz.out _).mono ?_); rintro e w2 ⟨rfl, hbw2⟩; obtain ⟨hcw2, _, _⟩ := bcell hbw2; have hzT2 : w17.heap.size < w2.heap.size := (by have := hbw2.size; (try simp at this); omega); have hzZ2 : w1.heap.size < w2.heap.size := (by have := hbw2.size; (try simp at this); omega); have hzB2 : wy.heap.size < w2.heap.size := (by have := hbw2.size; (try simp at this); omega); have kT0 : w2.cell? ⟨w17.heap.size, 0, none⟩ = some (.int .i64 (-x)) := (hcw2 _ _ (by assumption)).trans (by assumption); have kT1 : w2.cell? ⟨w17.heap.size, 1, none⟩ = some (.int .i64 (-y)) := (hcw2 _ _ (by assumption)).trans (by assumption); have kZ0 : w2.cell? ⟨w1.heap.size, 0, none⟩ = some (.int .i64 (x)) := (hcw2 _ _ (by assumption)).trans (by assumption); have kZ1 : w2.cell? ⟨w1.heap.size, 1, none⟩ = some (.int .i64 (y)) := (hcw2 _ _ (by assumption)).trans (by assumption); have kB0 : w2.cell? ⟨wy.heap.size, 0, none⟩ = some (.int .i64 (-1)) := (hcw2 _ _ (by assumption)).trans (by assumption); have kB1 : w2.cell? ⟨wy.heap.size, 1, none⟩ = some (.int .i64 (1)) := (hcw2 _ _ (by assumption)).trans (by assumption); have HBw2 := Lib.hid hbw2; clear hbw2 hcw2)) | (go_at_call 16; ((with_reducible refine (fmt_23 _).mono ?_); rintro e w2 ⟨rfl, hbw2⟩; obtain ⟨hcw2, _, _⟩ := bcell hbw2; have hzT2 : w17.heap.size < w2.heap.size := (by have := hbw2.size; (try simp at this); omega); have hzZ2 : w1.heap.size < w2.heap.size := (by have := hbw2.size; (try simp at this); omega); have hzB2 : wy.heap.size < w2.heap.size := (by have := hbw2.size; (try simp at this); omega); have kT0 : w2.cell? ⟨w17.heap.size, 0, none⟩ = some (.int .i64 (-x)) := (hcw2 _ _ (by assumption)).trans (by assumption); have kT1 : w2.cell? ⟨w17.heap.size, 1, none⟩ = some (.int .i64 (-y)) := (hcw2 _ _ (by assumption)).trans (by assumption); have kZ0 : w2.cell? ⟨w1.heap.size, 0, none⟩ = some (.int .i64 (x)) := (hcw2 _ _ (by assumption)).trans (by assumption); have kZ1 : w2.cell? ⟨w1.heap.size, 1, none⟩ = some (.int .i64 (y)) := (hcw2 _ _ (by assumption)).trans (by assumption); have kB0 : w2.cell? ⟨wy.heap.size, 0, none⟩ = some (.int .i64 (-1)) := (hcw2 _ _ (by assumption)).trans (by assumption); have kB1 : w2.cell? ⟨wy.heap.size, 1, none⟩ = some (.int .i64 (1)) := (hcw2 _ _ (by assumption)).trans (by assumption); have HBw2 := Lib.hid hbw2; clear hbw2 hcw2)))
    all_goals (go_wp2_with fail)
    all_goals go_ret
    all_goals refine ⟨by first | rfl | (simp; done), b_step T26 ?_⟩
    all_goals repeat (first | exact Below.refl _ _ | refine b_drew ?_ | refine b_step ?_ (hid_out (by assumption)))
set_option maxRecDepth 100000 in
theorem law_cx (w : World) (A : Option Addr) (zs : List Int) (cz : Nat) (RC : RY w w.heap.size A zs) (_ : ∀ n ∈ zs, (Lit.int .u8 n).wf = true) :
    Calls Tryd.prog 3 #[.slice A zs.length cz] w fun e w' => e = .returned (.bool true) ∧ Below w.heap.size w w' := by
  by_cases hl : zs.length ≤ 1048576
  · exact law_cx0 A zs cz w RC hl
  · go_enter Tryd.func3, Tryd.ntmps3
    go_wp2
    go_ret
    exact ⟨rfl, Below.refl _ _⟩
end Go.Proofs.YthblbmihpgkanaaDoor
