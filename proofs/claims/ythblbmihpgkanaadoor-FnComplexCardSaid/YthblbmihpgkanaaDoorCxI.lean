/- Contracts of spec.MakeGauss and of the operations at small numbers, for the law FnComplex. Conditions: none. -/
import Derived.Test.YthblbmihpgkanaaDoorCxM
import Derived.Test.YthblbmihpgkanaaDoorNum
import Derived.Test.YthblbmihpgkanaaDoorDivGI
import Derived.Test.YthblbmihpgkanaaDoorShelf
import Derived.Deep.QuietTactic
import Derived.BigQuiet
namespace Go.Proofs.YthblbmihpgkanaaDoor
open Go.RowKit
set_option linter.unusedVariables false

theorem GB.other {w w' : World} {g r : Nat} {x y : Int} (h : GB w r x y) (hO : Only w w' g) (hr : r ≠ g) : GB w' r x y := (hO.rest r h.lt hr).trans h
theorem Only.setN {a b : World} {g : Nat} (h : Only a b g) {p : Addr} (hp : a.heap.size ≤ p.block) (u : Value) : Only a (b.setCell p u) g :=
  ⟨h.os, h.tape, h.output, by simp [World.setCell]; exact h.size, fun k hk hn => (Below.heap_setCell b p u k (by omega)).trans (h.rest k hk hn)⟩
/-- A small complex number. -/
def Sm (x y : Int) : Prop := -30 ≤ x ∧ x ≤ 30 ∧ -30 ≤ y ∧ y ≤ 30
def SmR (w : World) (B : Nat) (e : Ending) (w' : World) : Prop := ∃ x y : Int, e = .returned (.agg #[.int .i64 x, .int .i64 y]) ∧ Sm x y ∧ Below B w w'
set_option maxHeartbeats 1000000 in
theorem l16Draw_any (g : Nat) (w : World) (hC : Cur w g) : Calls Tryd.prog 19 #[.pointer (some ⟨g, 0, none⟩)] w fun e w' => ∃ x y : Int, e = .returned (.agg #[.int .i64 x, .int .i64 y]) ∧ Sm x y ∧ Only w w' g := by
  have hg := hC.lt
  have H0 : Hid (GB (w.alloc (.cells #[.int .i64 0, .int .i64 0] 24)) w.heap.size 0 0) := GB.at w _ 0 0 rfl
  have HC : Hid (Cur (w.alloc (.cells #[.int .i64 0, .int .i64 0] 24)) g) := hC.below (b_alloc (Below.refl _ _) _) hg
  have HO : Hid (Only w (w.alloc (.cells #[.int .i64 0, .int .i64 0] 24)) g) := Only.of_below (b_alloc (Below.refl _ _) _)
  clear hC
  go_enter Tryd.func19, Tryd.ntmps19
  go_wp2_with fail
  refine (below_any g 61 _ HC.out (by omega) (by omega)).mono ?_
  rintro e w1 ⟨a, rfl, a0, a1, hC1, hO1⟩
  have H1 : Hid (GB w1 w.heap.size 0 0) := H0.out.other hO1 (by omega)
  have HO1 := Lib.hid (HO.out.trans hO1)
  have HC1 := Lib.hid hC1
  clear hC1 hO1
  go_wp2_with fail
  refine (below_any g 61 _ HC1.out (by omega) (by omega)).mono ?_
  rintro e w2 ⟨b, rfl, b0, b1, hC2, hO2⟩
  have H2 : GB w2 w.heap.size 0 0 := H1.out.other hO2 (by omega)
  have HO2 := Lib.hid (HO1.out.trans hO2)
  have H3 := Lib.hid ((H2.set0 (a - 30)).set1 (b - 30))
  have d0 := H3.out.cell0
  have d1 := H3.out.cell1
  have c0 := H2.cell0
  have c1 := H2.cell1
  have f0 := H2.frozen 0
  have f1 := H2.frozen 1
  clear hC2 hO2 H0 HC HO H1 HO1 HC1 H2
  go_wp2
  refine bodyPost_ret (v := .agg #[.int .i64 (a - 30), .int .i64 (b - 30)]) (by simp [results, Tryd.results19, go_sem, d0, d1]) rfl ⟨_, _, rfl, ⟨by omega, by omega, by omega, by omega⟩, (HO2.out.setN (by simp) _).setN (by simp) _⟩
set_option maxHeartbeats 1000000 in
theorem makeG_any (A : Option Addr) (zs : List Int) (c n : Nat) (w : World) (hR : RY w w.heap.size A zs) (hl : zs.length ≤ 1048576) (hn : n ≤ 1000) : Calls Tryd.prog 5 #[.slice A zs.length c, .int .i64 n] w (SmR w w.heap.size) := by
  have H0 : Hid (GB (w.alloc (.cells #[.int .i64 0, .int .i64 0] 24)) w.heap.size 0 0) := GB.at w _ 0 0 rfl
  have HR : Hid (RY (w.alloc (.cells #[.int .i64 0, .int .i64 0] 24)) w.heap.size A zs) := hR.below (b_alloc (Below.refl _ _) _)
  have HB : Hid (Below w.heap.size w (w.alloc (.cells #[.int .i64 0, .int .i64 0] 24))) := b_alloc (Below.refl _ _) _
  clear hR
  go_enter Tryd.func5, Tryd.ntmps5
  go_wp2_with fail
  refine (law_new A zs c n _ (HR.out.more (by simp)) hl hn).mono ?_
  rintro e w1 ⟨g, rfl, hg, hC, hB⟩
  have H1 : Hid (GB w1 w.heap.size 0 0) := H0.out.below hB (by simp)
  have HB1 := Lib.hid (HB.out.trans (hB.mono (by simp)))
  have HC1 := Lib.hid hC
  have hg1 : w.heap.size < g := by simp at hg; omega
  clear hC hB hg
  go_wp2_with fail
  refine (l16Draw_any g _ HC1.out).mono ?_
  rintro e w2 ⟨x, y, rfl, hS, hO2⟩
  have H2 : GB w2 w.heap.size 0 0 := H1.out.other hO2 (by omega)
  have HB2 := Lib.hid (HB1.out.trans (hO2.below (by omega) HB1.out.size))
  have HS := Lib.hid hS
  have H3 := Lib.hid ((H2.set0 x).set1 y)
  have d0 := H3.out.cell0
  have d1 := H3.out.cell1
  have c0 := H2.cell0
  have c1 := H2.cell1
  have f0 := H2.frozen 0
  have f1 := H2.frozen 1
  clear hO2 H0 HR HB H1 HB1 HC1 H2 hS
  go_wp2
  exact bodyPost_ret (v := .agg #[.int .i64 x, .int .i64 y]) (by simp [results, Tryd.results5, go_sem, d0, d1]) rfl ⟨_, _, rfl, HS.out, b_set (b_set HB2.out (by simp) _) (by simp) _⟩
theorem i_itoa_small (i : Nat) (hi : i < 100) (w : World) : Calls Tryd.prog 28 #[.int .i64 i] w fun e w' => e = .returned (.string ⟨(Lib.decDigits i).toArray⟩) ∧ w' = w := by
  go_enter Tryd.func28, Tryd.ntmps28
  go_wp2_with (go_at_call 36; refine (Tryd.strconv_Itoa_small i hi _).mono ?_; rintro e w' ⟨rfl, rfl⟩)
  go_ret
  exact ⟨rfl, rfl⟩
set_option maxHeartbeats 1000000 in
theorem fmt_23 (w : World) : Calls Tryd.prog 16 #[.agg #[.int .i64 2, .int .i64 (-3)]] w fun e w' => e = .returned (.string ⟨#[50, 45, 51, 105]⟩) ∧ Below w.heap.size w w' := by
  have c0 : (w.alloc (.cells #[.int .i64 2, .int .i64 (-3)] 24)).cell? ⟨w.heap.size, 0, none⟩ = some (.int .i64 2) := (GB.at w _ 2 (-3) rfl).cell0
  have c1 : (w.alloc (.cells #[.int .i64 2, .int .i64 (-3)] 24)).cell? ⟨w.heap.size, 1, none⟩ = some (.int .i64 (-3)) := (GB.at w _ 2 (-3) rfl).cell1
  go_enter Tryd.func16, Tryd.ntmps16
  go_wp2_with fail
  refine (impl_gok_ok 2 (-3) _ (by omega) (by omega) (by omega) (by omega)).mono ?_
  rintro e w1 ⟨rfl, c, rfl⟩
  go_wp2_with fail
  go_quiet (fail)
  go_wp2_with fail
  refine (i_itoa_small 2 (by omega) _).mono ?_
  rw [show Lib.decDigits 2 = [50] by decide +kernel]
  rintro e w1 ⟨rfl, rfl⟩
  go_wp2_with fail
  refine (i_itoa_small 3 (by omega) _).mono ?_
  rw [show Lib.decDigits 3 = [51] by decide +kernel]
  rintro e w1 ⟨rfl, rfl⟩
  go_wp2
  go_ret
  refine ⟨by rfl, ?_⟩
  repeat (first | exact Below.refl _ _ | refine b_drewN ?_ _ | refine b_drew ?_ | refine b_alloc ?_ _)
end Go.Proofs.YthblbmihpgkanaaDoor
