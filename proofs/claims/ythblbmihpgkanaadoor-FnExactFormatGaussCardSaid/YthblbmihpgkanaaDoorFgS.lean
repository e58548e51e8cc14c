/- Contracts of FormatGauss. Conditions: internal/strconv.uint64pow10 reads as the text lays it. -/
import Derived.Test.YthblbmihpgkanaaDoorItoS
import Derived.Test.YthblbmihpgkanaaDoorGaussBad
import Derived.Test.YthblbmihpgkanaaDoorGaussDig
import Derived.Test.YthblbmihpgkanaaDoorShelf
import Derived.Deep.RegionHeld3
import Derived.Deep.DeepCutAuto
import Derived.Test.YthblbmihpgkanaaDoorGaussNear
import Derived.Deep.QuietTactic
import Derived.BigQuiet
import Derived.Lib.AppendIntMem
namespace Go.Proofs.YthblbmihpgkanaaDoor
open Go.RowKit
set_option linter.unusedVariables false
theorem i_fi (n : Int) (w : World) (h1 : -1000000000 ≤ n) (h2 : n ≤ 1000000000) (ht : Lib.TabIs Tryd.prog w "internal/strconv.uint64pow10" .u64 Lib.pow10Tab) :
    Calls Tryd.prog 28 #[.int .i64 n] w fun e w' => e = .returned (.string (itx n)) ∧ Below w.heap.size w w' := by
  have HC := Lib.hid (Tryd.strconv_Itoa n (by omega) (by omega) w ht)
  go_enter Tryd.func28, Tryd.ntmps28
  go_wp2_with (go_at_call 36; (with_reducible refine (HC.out).mono ?_); rintro e w1 ⟨rfl, k, os, rfl⟩)
  go_ret
  exact ⟨rfl, Lib.below_grow _ _ (Nat.le_refl _) _ _⟩
/-- The text of a complex number. -/
def fgT (x y : Int) (c : UInt8) : ByteArray := ((itx x ++ (⟨#[c]⟩ : ByteArray)) ++ itx y) ++ (⟨#[105]⟩ : ByteArray)

theorem hid_o {p : Prop} (h : Hid p) : p := h.out

set_option maxHeartbeats 4000000 in
theorem spec_fg_neg (x y : Int) (w : World) (h1 : -100000 ≤ x) (h2 : x ≤ 100000) (h3 : -100000 ≤ y) (h4 : y ≤ 100000) (hy : y < 0) :
    Calls Tryd.prog 17 #[.agg #[.int .i64 x, .int .i64 y]] w fun e w' => e = .returned (.string (fgT x (-y) 45)) ∧ Below w.heap.size w w' := by
  have c0 : (w.alloc (.cells #[.int .i64 x, .int .i64 y] 24)).cell? ⟨w.heap.size, 0, none⟩ = some (.int .i64 x) := (BG.new w x y).cell0
  have c1 : (w.alloc (.cells #[.int .i64 x, .int .i64 y] 24)).cell? ⟨w.heap.size, 1, none⟩ = some (.int .i64 y) := (BG.new w x y).cell1
  have sz1 := size_itx (n := x) (by omega) (by omega)
  have sz2 := size_itx (n := -y) (by omega) (by omega)
  go_enter Tryd.func17, Tryd.ntmps17
  go_wp2_with fail
  refine (spec_gok_ok x y _ h1 h2 h3 h4).mono ?_
  rintro e w1 ⟨rfl, k1, rfl⟩
  go_upto_region 4 with fail
  refine gen_world (fun w' => Below w.heap.size w w' ∧ BG w' w.heap.size x y) ⟨by repeat (first | exact Below.refl _ _ | refine b_alloc ?_ _), (BG.new w x y).alloc _⟩ fun w2 hb2 => ?_
  obtain ⟨hb2, hg2⟩ := hb2
  have d0 := hg2.cell0
  have d1 := hg2.cell1
  have lt0 := hg2.lt
  have HB2 := Lib.hid hb2
  clear hb2 hg2 c0 c1
  have hwy : IntKind.i64.wrap (-y) = -y := IntWalk.i64_in _ (by omega)
  have HF := Lib.hid (fun (n : Int) (W : World) (g1 : -1000000000 ≤ n) (g2 : n ≤ 1000000000) => s_fi n W g1 g2)
  have hA1 := fun w : World => run_string_add_sum (P := Tryd.prog) (w := w) (itx x) (⟨#[45]⟩ : ByteArray) (by show (itx x).size + 1 ≤ _; omega)
  have hA2 := fun w : World => run_string_add_sum (P := Tryd.prog) (w := w) (itx x ++ (⟨#[45]⟩ : ByteArray)) (itx (-y)) (by rw [ByteArray.size_append]; show (itx x).size + 1 + _ ≤ _; omega)
  have hA3 := fun w : World => run_string_add_sum (P := Tryd.prog) (w := w) ((itx x ++ (⟨#[45]⟩ : ByteArray)) ++ itx (-y)) (⟨#[105]⟩ : ByteArray) (by rw [ByteArray.size_append, ByteArray.size_append]; show (itx x).size + 1 + _ + 1 ≤ _; omega)
  go_region_held3 (fun w' => w'.cell? ⟨w.heap.size, 0, none⟩ = some (.int .i64 x) ∧ w'.cell? ⟨w.heap.size, 1, none⟩ = some (.int .i64 y)) (refine ⟨?_, ?_⟩ <;> assumption) ((go_at_call 30; (with_reducible refine (HF.out _ _ (by omega) (by omega)).mono ?_); rintro e wq ⟨rfl, hbw2⟩; obtain ⟨hcw2, _, _⟩ := bcell hbw2; have hz2 : w.heap.size < wq.heap.size := (by have := hbw2.size; (try simp at this); omega); have k0 : wq.cell? ⟨w.heap.size, 0, none⟩ = some (.int .i64 x) := (hcw2 _ _ (by assumption)).trans (by assumption); have k1 : wq.cell? ⟨w.heap.size, 1, none⟩ = some (.int .i64 y) := (hcw2 _ _ (by assumption)).trans (by assumption); have HBw2 := Lib.hid hbw2; clear hbw2 hcw2))
  all_goals (try go_wp2_with fail)
  all_goals go_ret
  all_goals refine ⟨rfl, b_step HB2.out ?_⟩
  all_goals repeat (first | exact Below.refl _ _ | refine b_drewN ?_ _ | refine b_drew ?_ | refine b_alloc ?_ _ | refine b_step ?_ (hid_o (by assumption)))
set_option maxHeartbeats 4000000 in
theorem spec_fg_pos (x y : Int) (w : World) (h1 : -100000 ≤ x) (h2 : x ≤ 100000) (h3 : -100000 ≤ y) (h4 : y ≤ 100000) (hy : ¬ y < 0) :
    Calls Tryd.prog 17 #[.agg #[.int .i64 x, .int .i64 y]] w fun e w' => e = .returned (.string (fgT x y 43)) ∧ Below w.heap.size w w' := by
  have c0 : (w.alloc (.cells #[.int .i64 x, .int .i64 y] 24)).cell? ⟨w.heap.size, 0, none⟩ = some (.int .i64 x) := (BG.new w x y).cell0
  have c1 : (w.alloc (.cells #[.int .i64 x, .int .i64 y] 24)).cell? ⟨w.heap.size, 1, none⟩ = some (.int .i64 y) := (BG.new w x y).cell1
  have sz1 := size_itx (n := x) (by omega) (by omega)
  have sz2 := size_itx (n := y) (by omega) (by omega)
  go_enter Tryd.func17, Tryd.ntmps17
  go_wp2_with fail
  refine (spec_gok_ok x y _ h1 h2 h3 h4).mono ?_
  rintro e w1 ⟨rfl, k1, rfl⟩
  go_upto_region 5 with fail
  refine gen_world (fun w' => Below w.heap.size w w' ∧ BG w' w.heap.size x y) ⟨by repeat (first | exact Below.refl _ _ | refine b_alloc ?_ _), (BG.new w x y).alloc _⟩ fun w2 hb2 => ?_
  obtain ⟨hb2, hg2⟩ := hb2
  have d0 := hg2.cell0
  have d1 := hg2.cell1
  have lt0 := hg2.lt
  have HB2 := Lib.hid hb2
  clear hb2 hg2 c0 c1
  have HF := Lib.hid (fun (n : Int) (W : World) (g1 : -1000000000 ≤ n) (g2 : n ≤ 1000000000) => s_fi n W g1 g2)
  have hA1 := fun w : World => run_string_add_sum (P := Tryd.prog) (w := w) (itx x) (⟨#[43]⟩ : ByteArray) (by show (itx x).size + 1 ≤ _; omega)
  have hA2 := fun w : World => run_string_add_sum (P := Tryd.prog) (w := w) (itx x ++ (⟨#[43]⟩ : ByteArray)) (itx y) (by rw [ByteArray.size_append]; show (itx x).size + 1 + _ ≤ _; omega)
  have hA3 := fun w : World => run_string_add_sum (P := Tryd.prog) (w := w) ((itx x ++ (⟨#[43]⟩ : ByteArray)) ++ itx y) (⟨#[105]⟩ : ByteArray) (by rw [ByteArray.size_append, ByteArray.size_append]; show (itx x).size + 1 + _ + 1 ≤ _; omega)
  go_region_held3 (fun w' => w'.cell? ⟨w.heap.size, 0, none⟩ = some (.int .i64 x) ∧ w'.cell? ⟨w.heap.size, 1, none⟩ = some (.int .i64 y)) (refine ⟨?_, ?_⟩ <;> assumption) ((go_at_call 30; (with_reducible refine (HF.out _ _ (by omega) (by omega)).mono ?_); rintro e wq ⟨rfl, hbw2⟩; obtain ⟨hcw2, _, _⟩ := bcell hbw2; have hz2 : w.heap.size < wq.heap.size := (by have := hbw2.size; (try simp at this); omega); have k0 : wq.cell? ⟨w.heap.size, 0, none⟩ = some (.int .i64 x) := (hcw2 _ _ (by assumption)).trans (by assumption); have k1 : wq.cell? ⟨w.heap.size, 1, none⟩ = some (.int .i64 y) := (hcw2 _ _ (by assumption)).trans (by assumption); have HBw2 := Lib.hid hbw2; clear hbw2 hcw2))
  all_goals (try go_wp2_with fail)
  all_goals go_ret
  all_goals refine ⟨rfl, b_step HB2.out ?_⟩
  all_goals repeat (first | exact Below.refl _ _ | refine b_drewN ?_ _ | refine b_drew ?_ | refine b_alloc ?_ _ | refine b_step ?_ (hid_o (by assumption)))
set_option maxHeartbeats 1000000 in
theorem spec_fg_bad (x y : Int) (w : World) (HG : Hid (¬ gok x y)) :
    Calls Tryd.prog 17 #[.agg #[.int .i64 x, .int .i64 y]] w fun e w' => e = .returned (.string ⟨#[]⟩) ∧ Below w.heap.size w w' := by
  go_enter Tryd.func17, Tryd.ntmps17
  go_wp2_with fail
  refine (spec_gok_bad x y _ HG).mono ?_
  rintro e w1 ⟨rfl, k1, rfl⟩
  go_wp2_with fail
  go_ret
  refine ⟨rfl, ?_⟩
  repeat (first | exact Below.refl _ _ | refine b_alloc ?_ _)
set_option maxHeartbeats 4000000 in
theorem impl_fg_neg (x y : Int) (w : World) (h1 : -100000 ≤ x) (h2 : x ≤ 100000) (h3 : -100000 ≤ y) (h4 : y ≤ 100000) (hy : y < 0) (hT : Lib.TabBelow Tryd.prog w.heap.size w "internal/strconv.uint64pow10" .u64 Lib.pow10Tab) :
    Calls Tryd.prog 16 #[.agg #[.int .i64 x, .int .i64 y]] w fun e w' => e = .returned (.string (fgT x (-y) 45)) ∧ Below w.heap.size w w' := by
  have HT := Lib.hid hT
  clear hT
  have c0 : (w.alloc (.cells #[.int .i64 x, .int .i64 y] 24)).cell? ⟨w.heap.size, 0, none⟩ = some (.int .i64 x) := (BG.new w x y).cell0
  have c1 : (w.alloc (.cells #[.int .i64 x, .int .i64 y] 24)).cell? ⟨w.heap.size, 1, none⟩ = some (.int .i64 y) := (BG.new w x y).cell1
  have sz1 := size_itx (n := x) (by omega) (by omega)
  have sz2 := size_itx (n := -y) (by omega) (by omega)
  go_enter Tryd.func16, Tryd.ntmps16
  go_wp2_with fail
  refine (impl_gok_ok x y _ h1 h2 h3 h4).mono ?_
  rintro e w1 ⟨rfl, k1, rfl⟩
  go_wp2_with fail
  go_quiet (fail)
  go_wp2_with fail
  refine (i_fi (x) _ (by omega) (by omega) ((HT.out.on (by repeat (first | exact Below.refl _ _ | refine b_drewN ?_ _ | refine b_drew ?_ | refine b_alloc ?_ _ | refine b_step ?_ (hid_o (by assumption))))).here)).mono ?_
  rintro e wq0 ⟨rfl, hbq0⟩
  have HQ0 := Lib.hid hbq0
  clear hbq0
  go_wp2_with fail
  refine (i_fi (-y) _ (by omega) (by omega) ((HT.out.on (by repeat (first | exact Below.refl _ _ | refine b_drewN ?_ _ | refine b_drew ?_ | refine b_alloc ?_ _ | refine b_step ?_ (hid_o (by assumption))))).here)).mono ?_
  rintro e wq1 ⟨rfl, hbq1⟩
  have HQ1 := Lib.hid hbq1
  clear hbq1
  go_wp2_with fail
  go_ret
  refine ⟨rfl, ?_⟩
  repeat (first | exact Below.refl _ _ | refine b_drewN ?_ _ | refine b_drew ?_ | refine b_alloc ?_ _ | refine b_step ?_ (hid_o (by assumption)))
set_option maxHeartbeats 4000000 in
theorem impl_fg_pos (x y : Int) (w : World) (h1 : -100000 ≤ x) (h2 : x ≤ 100000) (h3 : -100000 ≤ y) (h4 : y ≤ 100000) (hy : ¬ y < 0) (hT : Lib.TabBelow Tryd.prog w.heap.size w "internal/strconv.uint64pow10" .u64 Lib.pow10Tab) :
    Calls Tryd.prog 16 #[.agg #[.int .i64 x, .int .i64 y]] w fun e w' => e = .returned (.string (fgT x y 43)) ∧ Below w.heap.size w w' := by
  have HT := Lib.hid hT
  clear hT
  have c0 : (w.alloc (.cells #[.int .i64 x, .int .i64 y] 24)).cell? ⟨w.heap.size, 0, none⟩ = some (.int .i64 x) := (BG.new w x y).cell0
  have c1 : (w.alloc (.cells #[.int .i64 x, .int .i64 y] 24)).cell? ⟨w.heap.size, 1, none⟩ = some (.int .i64 y) := (BG.new w x y).cell1
  have sz1 := size_itx (n := x) (by omega) (by omega)
  have sz2 := size_itx (n := y) (by omega) (by omega)
  go_enter Tryd.func16, Tryd.ntmps16
  go_wp2_with fail
  refine (impl_gok_ok x y _ h1 h2 h3 h4).mono ?_
  rintro e w1 ⟨rfl, k1, rfl⟩
  go_wp2_with fail
  go_quiet (fail)
  go_wp2_with fail
  refine (i_fi (x) _ (by omega) (by omega) ((HT.out.on (by repeat (first | exact Below.refl _ _ | refine b_drewN ?_ _ | refine b_drew ?_ | refine b_alloc ?_ _ | refine b_step ?_ (hid_o (by assumption))))).here)).mono ?_
  rintro e wq0 ⟨rfl, hbq0⟩
  have HQ0 := Lib.hid hbq0
  clear hbq0
  go_wp2_with fail
  refine (i_fi (y) _ (by omega) (by omega) ((HT.out.on (by repeat (first | exact Below.refl _ _ | refine b_drewN ?_ _ | refine b_drew ?_ | refine b_alloc ?_ _ | refine b_step ?_ (hid_o (by assumption))))).here)).mono ?_
  rintro e wq1 ⟨rfl, hbq1⟩
  have HQ1 := Lib.hid hbq1
  clear hbq1
  go_wp2_with fail
  go_ret
  refine ⟨rfl, ?_⟩
  repeat (first | exact Below.refl _ _ | refine b_drewN ?_ _ | refine b_drew ?_ | refine b_alloc ?_ _ | refine b_step ?_ (hid_o (by assumption)))
set_option maxHeartbeats 1000000 in
theorem impl_fg_bad (x y : Int) (w : World) (HG : Hid (¬ gok x y)) :
    Calls Tryd.prog 16 #[.agg #[.int .i64 x, .int .i64 y]] w fun e w' => e = .returned (.string ⟨#[]⟩) ∧ Below w.heap.size w w' := by
  go_enter Tryd.func16, Tryd.ntmps16
  go_wp2_with fail
  refine (impl_gok_bad x y _ HG).mono ?_
  rintro e w1 ⟨rfl, k1, rfl⟩
  go_wp2_with fail
  go_ret
  refine ⟨rfl, ?_⟩
  repeat (first | exact Below.refl _ _ | refine b_alloc ?_ _)
end Go.Proofs.YthblbmihpgkanaaDoor
