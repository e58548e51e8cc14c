/- Contracts of spec.FormatInt. Conditions: numbers of at most 10^9. -/
import Derived.Test.YthblbmihpgkanaaDoorItoM
import Derived.Test.YthblbmihpgkanaaDoorInts
import Derived.WalkSpells
import Derived.Outline
import Derived.IntWalk
import Derived.Deep.RegionWith
namespace Go.Proofs.YthblbmihpgkanaaDoor
open Go.RowKit
set_option linter.unusedVariables false
def BU (w : World) (g : Nat) (cs : Array Value) : Prop := w.heap[g]? = some (.cells cs 5 (0, 0))
theorem BU.cell {w : World} {g : Nat} {cs : Array Value} (h : BU w g cs) (i : Nat) : w.cell? ⟨g, i, none⟩ = cs[i]? := cell_of_row w g i cs 5 (0, 0) h
theorem BU.new (w : World) (cs : Array Value) : BU (w.alloc (.cells cs 5)) w.heap.size cs := heap_alloc_new w _
theorem cell_new8 (w : World) (n : Int) (i : Nat) (hi : i < 1) : (w.alloc (Obj.cells #[Value.int IntKind.u8 n] 5)).cell? ⟨w.heap.size, 0 + i, none⟩ = some (.int .u8 ([n].getD i 0)) := by
  obtain rfl : i = 0 := by omega
  rw [(BU.new w _).cell]
  rfl
set_option maxHeartbeats 2000000 in
theorem s_fi_pos (U : Nat) (w : World) (hU : U ≤ 1000000000) :
    Calls Tryd.prog 30 #[.int .i64 U] w fun e w' => e = .returned (.string (dtx U)) ∧ Below w.heap.size w w' := by
  have h0 : ¬ ((U : Int) < 0) := by omega
  go_enter Tryd.func30, Tryd.ntmps30
  go_wp2
  go_loopw [0, 3] (fun n s wr => ∃ (u : Nat) (t : ByteArray), u + t.size ≤ 1000000000 ∧ n = .int .i64 u ∧ s = .string t ∧ Hid (dtx U = dtx u ++ t) ∧ Below w.heap.size w wr) (fun n _ _ => (intOf n).toNat)
  case atStart => exact ⟨U, ⟨#[]⟩, (by show U + 0 ≤ 1000000000; omega), rfl, rfl, (ba_nil _).symm, Below.refl _ _⟩
  case round =>
    obtain ⟨u, t, hu, rfl, rfl, hH, hB⟩ := hrel
    clear h0
    by_cases h9 : u < 10
    · have hE := Lib.hid (show dtx U = strOfNums [48 + (u : Int)] ++ t by rw [hH.out, dtx_small h9])
      have hgt : ¬ ((9 : Int) < u) := by omega
      have b0 : (0 : Int) ≤ (u : Int) := by omega
      have b1 : (u : Int) ≤ 9 := by omega
      have hcv := run_convert_bytes_arg (P := Tryd.prog) (wr.alloc (Obj.cells #[Value.int IntKind.u8 (48 + (u : Int))] 5)) 22 5 Tryd.underlying22 Tryd.underlying5 wr.heap.size 0 1 1 [48 + (u : Int)] rfl (cell_new8 wr _) 9 Tryd.underlying9
      have szo : (strOfNums [48 + (u : Int)]).size = 1 := by rw [strOfNums_size]; rfl
      have szt : t.size ≤ 1000000000 := by omega
      have HB := Lib.hid hB
      clear hH hB
      go_wp2
      go_ret
      exact ⟨by rw [hE.out]; rfl, b_alloc HB.out _⟩
    · have hE := Lib.hid (show dtx U = dtx (u / 10) ++ (strOfNums [48 + ((u % 10 : Nat) : Int)] ++ t) by rw [hH.out, dtx_big h9, ba_assoc])
      have hgt : (9 : Int) < u := by omega
      obtain ⟨v, hv⟩ : ∃ v, u / 10 = v := ⟨_, rfl⟩
      obtain ⟨r, hr⟩ : ∃ r, u % 10 = r := ⟨_, rfl⟩
      rw [hv, hr] at hE
      have e1 : (u : Int) / 10 = (v : Int) := by omega
      have e2 : (u : Int) % 10 = (r : Int) := by omega
      have r9 : (r : Int) ≤ 9 := by omega
      have r0 : (0 : Int) ≤ (r : Int) := by omega
      have vl : v < u := by omega
      clear hv hr
      have hcv := run_convert_bytes_arg (P := Tryd.prog) (wr.alloc (Obj.cells #[Value.int IntKind.u8 (48 + (r : Int))] 5)) 22 5 Tryd.underlying22 Tryd.underlying5 wr.heap.size 0 1 1 [48 + (r : Int)] rfl (cell_new8 wr _) 9 Tryd.underlying9
      have szo : (strOfNums [48 + (r : Int)]).size = 1 := by rw [strOfNums_size]; rfl
      have szt : t.size + v + 1 ≤ 1000000000 := by omega
      have HB := Lib.hid hB
      clear hH hB
      go_wp2
      go_roundw
      case rel => exact ⟨v, _, by rw [ByteArray.size_append, szo]; omega, rfl, rfl, hE, b_alloc HB.out _⟩
      case measure => simp [intOf]; omega
theorem conv_at (W : World) (g : Nat) (n : Int) (h : W.cell? ⟨g, 0, none⟩ = some (.int .u8 n)) : (convert 22 9 (.slice (some ⟨g, 0, none⟩) 1 1)).run Tryd.prog W = .ok (.string (strOfNums [n])) W :=
  run_convert_bytes_arg (P := Tryd.prog) W 22 5 Tryd.underlying22 Tryd.underlying5 g 0 1 1 [n] rfl (fun i hi => by
    obtain rfl : i = 0 := by omega
    exact h) 9 Tryd.underlying9
set_option maxHeartbeats 4000000 in
theorem s_fi_neg : ∀ (u : Nat) (w : World), 1 ≤ u → u ≤ 1000000000 →
    Calls Tryd.prog 30 #[.int .i64 (-(u : Int))] w fun e w' => e = .returned (.string ((⟨#[45]⟩ : ByteArray) ++ dtx u)) ∧ Below w.heap.size w w' := by
  intro u
  induction u using Nat.strongRecOn with
  | _ u ih =>
    intro w h1 h2
    obtain ⟨n, hn⟩ : ∃ n : Int, -(u : Int) = n := ⟨_, rfl⟩
    obtain ⟨v, hv⟩ : ∃ v, u / 10 = v := ⟨_, rfl⟩
    obtain ⟨r, hr⟩ : ∃ r, u % 10 = r := ⟨_, rfl⟩
    have e1 := tdiv_neg u
    have e2 := tmod_neg u
    rw [hn, hv] at e1
    rw [hn, hr] at e2
    rw [hn]
    have n0 : n < 0 := by omega
    have n1 : -1000000000 ≤ n := by omega
    have r9 : (r : Int) ≤ 9 := by omega
    have r0 : (0 : Int) ≤ (r : Int) := by omega
    by_cases h9 : u < 10
    · have hE := Lib.hid (show dtx u = strOfNums [48 - n] by rw [dtx_small h9, ← hn]; congr 1; congr 1; omega)
      have v0 : v = 0 := by omega
      subst v0
      have e3 : n.tdiv 10 = 0 := by rw [e1]; rfl
      have hcv := run_convert_bytes_arg (P := Tryd.prog) (w.alloc (Obj.cells #[Value.int IntKind.u8 (48 - n)] 5)) 22 5 Tryd.underlying22 Tryd.underlying5 w.heap.size 0 1 1 [48 - n] rfl (cell_new8 w _) 9 Tryd.underlying9
      have szo : (strOfNums [48 - n]).size = 1 := by rw [strOfNums_size]; rfl
      have n2 : -9 ≤ n := by omega
      clear hn hv hr e1 e2 ih
      go_enter Tryd.func30, Tryd.ntmps30
      go_wp2
      go_ret
      exact ⟨by rw [hE.out]; rfl, b_alloc (Below.refl _ _) _⟩
    · have hE := Lib.hid (show dtx u = dtx v ++ strOfNums [48 + (r : Int)] by rw [dtx_big h9, hv, hr])
      have v1 : 1 ≤ v := by omega
      have v2 : v < u := by omega
      have IH := Lib.hid (fun W => ih v v2 W v1 (by omega))
      have szo : (strOfNums [48 + (r : Int)]).size = 1 := by rw [strOfNums_size]; rfl
      have szv : (dtx v).size ≤ 30 := size_dtx v (by omega)
      have n2 : n < -9 := by omega
      have n3 : n.tdiv 10 < 0 := by omega
      have n4 : ¬ ((v : Int) = 0) := by omega
      have hcv := fun (W : World) (g : Nat) => conv_at W g (48 + (r : Int))
      have hw1 : IntKind.i64.wrap (-(v : Int)) = -(v : Int) := IntWalk.i64_in _ (by omega)
      have hw2 : IntKind.i64.wrap (48 + (r : Int)) = 48 + (r : Int) := IntWalk.i64_in _ (by omega)
      have hw3 : IntKind.u8.wrap (48 + (r : Int)) = 48 + (r : Int) := IntWalk.u8_in _ (by omega)
      clear hn hv hr ih
      go_enter Tryd.func30, Tryd.ntmps30
      go_wp2
      go_region_with ((go_at_call 30; (with_reducible refine (IH.out _).mono ?_); rintro e w2 ⟨rfl, hb2⟩; obtain ⟨hc2, hf2, hl2⟩ := bcell hb2; have HB2 := Lib.hid hb2; clear hb2))
      all_goals (try go_wp2_with fail)
      all_goals go_ret
      all_goals refine ⟨by rw [hE.out, ← ba_assoc]; rfl, ?_⟩
      all_goals repeat (first | exact Below.refl _ _ | refine b_drew ?_ | refine b_alloc ?_ _ | refine b_step ?_ HB2.out)
/-- Any number. -/
theorem s_fi (n : Int) (w : World) (h1 : -1000000000 ≤ n) (h2 : n ≤ 1000000000) :
    Calls Tryd.prog 30 #[.int .i64 n] w fun e w' => e = .returned (.string (itx n)) ∧ Below w.heap.size w w' := by
  by_cases h : n < 0
  · obtain ⟨u, rfl⟩ : ∃ u : Nat, n = -(u : Int) := ⟨n.natAbs, by omega⟩
    rw [itx_neg u (by omega)]
    exact s_fi_neg u w (by omega) (by omega)
  · obtain ⟨u, rfl⟩ : ∃ u : Nat, n = (u : Int) := ⟨n.toNat, by omega⟩
    rw [itx_nonneg u]
    exact s_fi_pos u w (by omega)
theorem size_itx {n : Int} (h1 : -1000000000 ≤ n) (h2 : n ≤ 1000000000) : (itx n).size ≤ 21 := Lib.itoa_length_le n (by omega) (by omega)
end Go.Proofs.YthblbmihpgkanaaDoor
