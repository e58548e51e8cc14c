/- Values of EqualPowerSums (program). Conditions: the listed table. -/
import Derived.Test.YtobbbaagoiejeaaDoorEqS
namespace Go.Proofs.YtobbbaagoiejeaaDoor
open Go.RowKit
set_option linter.unusedVariables false

set_option maxHeartbeats 1000000 in
theorem i_eq1 (e : Nat) (he : e ≤ 6) (w : World) (hT : Tab w) :
    Calls Tryd.prog 19 #[.int .i64 1, .int .i64 (e : Nat)] w fun r w' => r = .returned (.tuple #[.int .i64 (psA e 2), .int .i64 (psB e 2), .bool true]) ∧ Below w.heap.size w w' := by
  go_enter Tryd.func19, Tryd.ntmps19
  go_wp2_with (first | (go_at_call 33; refine (i_in_t _ _ _ _ ?_ ?_).mono ?_; omega; omega; rintro e w1 ⟨rfl, rfl⟩) | (go_at_call 33; refine (i_in_f _ _ _ _ ?_).mono ?_; omega; rintro e w1 ⟨rfl, rfl⟩))
  go_loopw [19] (fun i wr => ∃ (t : Nat) (a b : Int), t ≤ 2 ∧ i = .int .i64 t ∧ a = psA e t ∧ b = psB e t ∧ BP wr w.heap.size a b ∧ Below w.heap.size w wr) (fun i _ => 2 - (intOf i).toNat)
  case atStart => exact ⟨0, 0, 0, by omega, rfl, rfl, rfl, heap_alloc_new w _, b_alloc (Below.refl _ _) _⟩
  case round =>
    obtain ⟨t, a, b, ht, rfl, ha, hb, hB, hW⟩ := hrel
    have HT := Lib.hid hW
    have HB := Lib.hid hB
    have hgl := (Array.getElem?_eq_some_iff.1 hB).1
    have c0 : wr.cell? ⟨w.heap.size, 0, none⟩ = some (.int .i64 a) := by rw [cell_of_row wr _ 0 _ _ (0, 0) hB]; rfl
    have c1 : wr.cell? ⟨w.heap.size, 1, none⟩ = some (.int .i64 b) := by rw [cell_of_row wr _ 1 _ _ (0, 0) hB]; rfl
    have f0 : ∀ i, wr.frozen? ⟨w.heap.size, i, none⟩ = false := by intro i; unfold BP at hB; simp [World.frozen?, hB]
    clear hW hB
    by_cases hlt : t < 2
    · have hlt2 : (t : Int) < 2 := by omega
      obtain ⟨a0, a1, b0, b1⟩ := ps_bd e he t (by omega)
      obtain ⟨z0, z1⟩ := pow_bd6 t e (by omega) he
      obtain ⟨z, hz⟩ : ∃ z, z = (t : Int) ^ e := ⟨_, rfl⟩
      rw [← ha] at a0 a1
      rw [← hb] at b0 b1
      rw [← hz] at z0 z1
      have K1 : Hid (IntKind.i64.wrap (a + z) = a + z) := Lib.hid (by rw [IntKind.wrap_i64]; omega)
      have K2 : Hid (IntKind.i64.wrap (b + z) = b + z) := Lib.hid (by rw [IntKind.wrap_i64]; omega)
      have HA := Lib.hid ha
      have HBv := Lib.hid hb
      have HZ := Lib.hid hz
      clear ha hb hz
      rcases sq1_le t with h | h
      · have HQ := Lib.hid h
        clear h
        go_wp2_with fail
        have k1 := K1.out
        have k2 := K2.out
        go_region_law (first | (go_simp; go_at_call 37; refine (i_pw t e _ (by omega) he).mono ?_; rw [← HZ.out]; rintro r w1 ⟨rfl, rfl⟩) | (go_simp; go_at_call 32; refine (i_one t _ (by omega)).mono ?_; rw [HQ.out]; rintro r w1 ⟨rfl, rfl⟩))
        all_goals clear k1 k2
        all_goals (
          go_wp2_with fail
          go_roundw
          case rel => exact ⟨t + 1, _, _, by omega, by go_num, by rw [psA, if_pos HQ.out, ← HA.out, ← HZ.out], by rw [psB, if_pos HQ.out, ← HBv.out], (BP.set0 HB.out (a + z) : BP (wr.setCell ⟨w.heap.size, 0, none⟩ (.int .i64 (a + z))) w.heap.size (a + z) b), b_set (b_drew HT.out) (Nat.le_refl _) _⟩
          case measure => simp [intOf]; omega)
      · have HQ := Lib.hid h
        clear h
        go_wp2_with fail
        have k1 := K1.out
        have k2 := K2.out
        go_region_law (first | (go_simp; go_at_call 37; refine (i_pw t e _ (by omega) he).mono ?_; rw [← HZ.out]; rintro r w1 ⟨rfl, rfl⟩) | (go_simp; go_at_call 32; refine (i_one t _ (by omega)).mono ?_; rw [HQ.out]; rintro r w1 ⟨rfl, rfl⟩))
        all_goals clear k1 k2
        all_goals (
          go_wp2_with fail
          go_roundw
          case rel => exact ⟨t + 1, _, _, by omega, by go_num, by rw [psA, if_neg (by rw [HQ.out]; decide), ← HA.out], by rw [psB, if_neg (by rw [HQ.out]; decide), ← HBv.out, ← HZ.out], (BP.set1 HB.out (b + z) : BP (wr.setCell ⟨w.heap.size, 1, none⟩ (.int .i64 (b + z))) w.heap.size a (b + z)), b_set (b_drew HT.out) (Nat.le_refl _) _⟩
          case measure => simp [intOf]; omega)
    · obtain rfl : t = 2 := by omega
      have HA := Lib.hid ha
      have HBv := Lib.hid hb
      clear ha hb
      go_wp2_with fail
      go_quiet (fail)
      go_wp2
      exact bodyPost_ret (v := .tuple #[.int .i64 a, .int .i64 b, .bool true]) (by simp [results, Tryd.results19, go_sem]) rfl ⟨by rw [← HA.out, ← HBv.out], b_drewN HT.out _⟩
set_option maxHeartbeats 1000000 in
theorem i_eq2 (e : Nat) (he : e ≤ 6) (w : World) (hT : Tab w) :
    Calls Tryd.prog 19 #[.int .i64 2, .int .i64 (e : Nat)] w fun r w' => r = .returned (.tuple #[.int .i64 (psA e 4), .int .i64 (psB e 4), .bool true]) ∧ Below w.heap.size w w' := by
  go_enter Tryd.func19, Tryd.ntmps19
  go_wp2_with (first | (go_at_call 33; refine (i_in_t _ _ _ _ ?_ ?_).mono ?_; omega; omega; rintro e w1 ⟨rfl, rfl⟩) | (go_at_call 33; refine (i_in_f _ _ _ _ ?_).mono ?_; omega; rintro e w1 ⟨rfl, rfl⟩))
  go_loopw [19] (fun i wr => ∃ (t : Nat) (a b : Int), t ≤ 4 ∧ i = .int .i64 t ∧ a = psA e t ∧ b = psB e t ∧ BP wr w.heap.size a b ∧ Below w.heap.size w wr) (fun i _ => 4 - (intOf i).toNat)
  case atStart => exact ⟨0, 0, 0, by omega, rfl, rfl, rfl, heap_alloc_new w _, b_alloc (Below.refl _ _) _⟩
  case round =>
    obtain ⟨t, a, b, ht, rfl, ha, hb, hB, hW⟩ := hrel
    have HT := Lib.hid hW
    have HB := Lib.hid hB
    have hgl := (Array.getElem?_eq_some_iff.1 hB).1
    have c0 : wr.cell? ⟨w.heap.size, 0, none⟩ = some (.int .i64 a) := by rw [cell_of_row wr _ 0 _ _ (0, 0) hB]; rfl
    have c1 : wr.cell? ⟨w.heap.size, 1, none⟩ = some (.int .i64 b) := by rw [cell_of_row wr _ 1 _ _ (0, 0) hB]; rfl
    have f0 : ∀ i, wr.frozen? ⟨w.heap.size, i, none⟩ = false := by intro i; unfold BP at hB; simp [World.frozen?, hB]
    clear hW hB
    by_cases hlt : t < 4
    · have hlt2 : (t : Int) < 4 := by omega
      obtain ⟨a0, a1, b0, b1⟩ := ps_bd e he t (by omega)
      obtain ⟨z0, z1⟩ := pow_bd6 t e (by omega) he
      obtain ⟨z, hz⟩ : ∃ z, z = (t : Int) ^ e := ⟨_, rfl⟩
      rw [← ha] at a0 a1
      rw [← hb] at b0 b1
      rw [← hz] at z0 z1
      have K1 : Hid (IntKind.i64.wrap (a + z) = a + z) := Lib.hid (by rw [IntKind.wrap_i64]; omega)
      have K2 : Hid (IntKind.i64.wrap (b + z) = b + z) := Lib.hid (by rw [IntKind.wrap_i64]; omega)
      have HA := Lib.hid ha
      have HBv := Lib.hid hb
      have HZ := Lib.hid hz
      clear ha hb hz
      rcases sq1_le t with h | h
      · have HQ := Lib.hid h
        clear h
        go_wp2_with fail
        have k1 := K1.out
        have k2 := K2.out
        go_region_law (first | (go_simp; go_at_call 37; refine (i_pw t e _ (by omega) he).mono ?_; rw [← HZ.out]; rintro r w1 ⟨rfl, rfl⟩) | (go_simp; go_at_call 32; refine (i_one t _ (by omega)).mono ?_; rw [HQ.out]; rintro r w1 ⟨rfl, rfl⟩))
        all_goals clear k1 k2
        all_goals (
          go_wp2_with fail
          go_roundw
          case rel => exact ⟨t + 1, _, _, by omega, by go_num, by rw [psA, if_pos HQ.out, ← HA.out, ← HZ.out], by rw [psB, if_pos HQ.out, ← HBv.out], (BP.set0 HB.out (a + z) : BP (wr.setCell ⟨w.heap.size, 0, none⟩ (.int .i64 (a + z))) w.heap.size (a + z) b), b_set (b_drew HT.out) (Nat.le_refl _) _⟩
          case measure => simp [intOf]; omega)
      · have HQ := Lib.hid h
        clear h
        go_wp2_with fail
        have k1 := K1.out
        have k2 := K2.out
        go_region_law (first | (go_simp; go_at_call 37; refine (i_pw t e _ (by omega) he).mono ?_; rw [← HZ.out]; rintro r w1 ⟨rfl, rfl⟩) | (go_simp; go_at_call 32; refine (i_one t _ (by omega)).mono ?_; rw [HQ.out]; rintro r w1 ⟨rfl, rfl⟩))
        all_goals clear k1 k2
        all_goals (
          go_wp2_with fail
          go_roundw
          case rel => exact ⟨t + 1, _, _, by omega, by go_num, by rw [psA, if_neg (by rw [HQ.out]; decide), ← HA.out], by rw [psB, if_neg (by rw [HQ.out]; decide), ← HBv.out, ← HZ.out], (BP.set1 HB.out (b + z) : BP (wr.setCell ⟨w.heap.size, 1, none⟩ (.int .i64 (b + z))) w.heap.size a (b + z)), b_set (b_drew HT.out) (Nat.le_refl _) _⟩
          case measure => simp [intOf]; omega)
    · obtain rfl : t = 4 := by omega
      have HA := Lib.hid ha
      have HBv := Lib.hid hb
      clear ha hb
      go_wp2_with fail
      go_quiet (fail)
      go_wp2
      exact bodyPost_ret (v := .tuple #[.int .i64 a, .int .i64 b, .bool true]) (by simp [results, Tryd.results19, go_sem]) rfl ⟨by rw [← HA.out, ← HBv.out], b_drewN HT.out _⟩
set_option maxHeartbeats 1000000 in
theorem i_eq3 (e : Nat) (he : e ≤ 6) (w : World) (hT : Tab w) :
    Calls Tryd.prog 19 #[.int .i64 3, .int .i64 (e : Nat)] w fun r w' => r = .returned (.tuple #[.int .i64 (psA e 8), .int .i64 (psB e 8), .bool true]) ∧ Below w.heap.size w w' := by
  go_enter Tryd.func19, Tryd.ntmps19
  go_wp2_with (first | (go_at_call 33; refine (i_in_t _ _ _ _ ?_ ?_).mono ?_; omega; omega; rintro e w1 ⟨rfl, rfl⟩) | (go_at_call 33; refine (i_in_f _ _ _ _ ?_).mono ?_; omega; rintro e w1 ⟨rfl, rfl⟩))
  go_loopw [19] (fun i wr => ∃ (t : Nat) (a b : Int), t ≤ 8 ∧ i = .int .i64 t ∧ a = psA e t ∧ b = psB e t ∧ BP wr w.heap.size a b ∧ Below w.heap.size w wr) (fun i _ => 8 - (intOf i).toNat)
  case atStart => exact ⟨0, 0, 0, by omega, rfl, rfl, rfl, heap_alloc_new w _, b_alloc (Below.refl _ _) _⟩
  case round =>
    obtain ⟨t, a, b, ht, rfl, ha, hb, hB, hW⟩ := hrel
    have HT := Lib.hid hW
    have HB := Lib.hid hB
    have hgl := (Array.getElem?_eq_some_iff.1 hB).1
    have c0 : wr.cell? ⟨w.heap.size, 0, none⟩ = some (.int .i64 a) := by rw [cell_of_row wr _ 0 _ _ (0, 0) hB]; rfl
    have c1 : wr.cell? ⟨w.heap.size, 1, none⟩ = some (.int .i64 b) := by rw [cell_of_row wr _ 1 _ _ (0, 0) hB]; rfl
    have f0 : ∀ i, wr.frozen? ⟨w.heap.size, i, none⟩ = false := by intro i; unfold BP at hB; simp [World.frozen?, hB]
    clear hW hB
    by_cases hlt : t < 8
    · have hlt2 : (t : Int) < 8 := by omega
      obtain ⟨a0, a1, b0, b1⟩ := ps_bd e he t (by omega)
      obtain ⟨z0, z1⟩ := pow_bd6 t e (by omega) he
      obtain ⟨z, hz⟩ : ∃ z, z = (t : Int) ^ e := ⟨_, rfl⟩
      rw [← ha] at a0 a1
      rw [← hb] at b0 b1
      rw [← hz] at z0 z1
      have K1 : Hid (IntKind.i64.wrap (a + z) = a + z) := Lib.hid (by rw [IntKind.wrap_i64]; omega)
      have K2 : Hid (IntKind.i64.wrap (b + z) = b + z) := Lib.hid (by rw [IntKind.wrap_i64]; omega)
      have HA := Lib.hid ha
      have HBv := Lib.hid hb
      have HZ := Lib.hid hz
      clear ha hb hz
      rcases sq1_le t with h | h
      · have HQ := Lib.hid h
        clear h
        go_wp2_with fail
        have k1 := K1.out
        have k2 := K2.out
        go_region_law (first | (go_simp; go_at_call 37; refine (i_pw t e _ (by omega) he).mono ?_; rw [← HZ.out]; rintro r w1 ⟨rfl, rfl⟩) | (go_simp; go_at_call 32; refine (i_one t _ (by omega)).mono ?_; rw [HQ.out]; rintro r w1 ⟨rfl, rfl⟩))
        all_goals clear k1 k2
        all_goals (
          go_wp2_with fail
          go_roundw
          case rel => exact ⟨t + 1, _, _, by omega, by go_num, by rw [psA, if_pos HQ.out, ← HA.out, ← HZ.out], by rw [psB, if_pos HQ.out, ← HBv.out], (BP.set0 HB.out (a + z) : BP (wr.setCell ⟨w.heap.size, 0, none⟩ (.int .i64 (a + z))) w.heap.size (a + z) b), b_set (b_drew HT.out) (Nat.le_refl _) _⟩
          case measure => simp [intOf]; omega)
      · have HQ := Lib.hid h
        clear h
        go_wp2_with fail
        have k1 := K1.out
        have k2 := K2.out
        go_region_law (first | (go_simp; go_at_call 37; refine (i_pw t e _ (by omega) he).mono ?_; rw [← HZ.out]; rintro r w1 ⟨rfl, rfl⟩) | (go_simp; go_at_call 32; refine (i_one t _ (by omega)).mono ?_; rw [HQ.out]; rintro r w1 ⟨rfl, rfl⟩))
        all_goals clear k1 k2
        all_goals (
          go_wp2_with fail
          go_roundw
          case rel => exact ⟨t + 1, _, _, by omega, by go_num, by rw [psA, if_neg (by rw [HQ.out]; decide), ← HA.out], by rw [psB, if_neg (by rw [HQ.out]; decide), ← HBv.out, ← HZ.out], (BP.set1 HB.out (b + z) : BP (wr.setCell ⟨w.heap.size, 1, none⟩ (.int .i64 (b + z))) w.heap.size a (b + z)), b_set (b_drew HT.out) (Nat.le_refl _) _⟩
          case measure => simp [intOf]; omega)
    · obtain rfl : t = 8 := by omega
      have HA := Lib.hid ha
      have HBv := Lib.hid hb
      clear ha hb
      go_wp2_with fail
      go_quiet (fail)
      go_wp2
      exact bodyPost_ret (v := .tuple #[.int .i64 a, .int .i64 b, .bool true]) (by simp [results, Tryd.results19, go_sem]) rfl ⟨by rw [← HA.out, ← HBv.out], b_drewN HT.out _⟩
set_option maxHeartbeats 1000000 in
theorem i_eq4 (e : Nat) (he : e ≤ 6) (w : World) (hT : Tab w) :
    Calls Tryd.prog 19 #[.int .i64 4, .int .i64 (e : Nat)] w fun r w' => r = .returned (.tuple #[.int .i64 (psA e 16), .int .i64 (psB e 16), .bool true]) ∧ Below w.heap.size w w' := by
  go_enter Tryd.func19, Tryd.ntmps19
  go_wp2_with (first | (go_at_call 33; refine (i_in_t _ _ _ _ ?_ ?_).mono ?_; omega; omega; rintro e w1 ⟨rfl, rfl⟩) | (go_at_call 33; refine (i_in_f _ _ _ _ ?_).mono ?_; omega; rintro e w1 ⟨rfl, rfl⟩))
  go_loopw [19] (fun i wr => ∃ (t : Nat) (a b : Int), t ≤ 16 ∧ i = .int .i64 t ∧ a = psA e t ∧ b = psB e t ∧ BP wr w.heap.size a b ∧ Below w.heap.size w wr) (fun i _ => 16 - (intOf i).toNat)
  case atStart => exact ⟨0, 0, 0, by omega, rfl, rfl, rfl, heap_alloc_new w _, b_alloc (Below.refl _ _) _⟩
  case round =>
    obtain ⟨t, a, b, ht, rfl, ha, hb, hB, hW⟩ := hrel
    have HT := Lib.hid hW
    have HB := Lib.hid hB
    have hgl := (Array.getElem?_eq_some_iff.1 hB).1
    have c0 : wr.cell? ⟨w.heap.size, 0, none⟩ = some (.int .i64 a) := by rw [cell_of_row wr _ 0 _ _ (0, 0) hB]; rfl
    have c1 : wr.cell? ⟨w.heap.size, 1, none⟩ = some (.int .i64 b) := by rw [cell_of_row wr _ 1 _ _ (0, 0) hB]; rfl
    have f0 : ∀ i, wr.frozen? ⟨w.heap.size, i, none⟩ = false := by intro i; unfold BP at hB; simp [World.frozen?, hB]
    clear hW hB
    by_cases hlt : t < 16
    · have hlt2 : (t : Int) < 16 := by omega
      obtain ⟨a0, a1, b0, b1⟩ := ps_bd e he t (by omega)
      obtain ⟨z0, z1⟩ := pow_bd6 t e (by omega) he
      obtain ⟨z, hz⟩ : ∃ z, z = (t : Int) ^ e := ⟨_, rfl⟩
      rw [← ha] at a0 a1
      rw [← hb] at b0 b1
      rw [← hz] at z0 z1
      have K1 : Hid (IntKind.i64.wrap (a + z) = a + z) := Lib.hid (by rw [IntKind.wrap_i64]; omega)
      have K2 : Hid (IntKind.i64.wrap (b + z) = b + z) := Lib.hid (by rw [IntKind.wrap_i64]; omega)
      have HA := Lib.hid ha
      have HBv := Lib.hid hb
      have HZ := Lib.hid hz
      clear ha hb hz
      rcases sq1_le t with h | h
      · have HQ := Lib.hid h
        clear h
        go_wp2_with fail
        have k1 := K1.out
        have k2 := K2.out
        go_region_law (first | (go_simp; go_at_call 37; refine (i_pw t e _ (by omega) he).mono ?_; rw [← HZ.out]; rintro r w1 ⟨rfl, rfl⟩) | (go_simp; go_at_call 32; refine (i_one t _ (by omega)).mono ?_; rw [HQ.out]; rintro r w1 ⟨rfl, rfl⟩))
        all_goals clear k1 k2
        all_goals (
          go_wp2_with fail
          go_roundw
          case rel => exact ⟨t + 1, _, _, by omega, by go_num, by rw [psA, if_pos HQ.out, ← HA.out, ← HZ.out], by rw [psB, if_pos HQ.out, ← HBv.out], (BP.set0 HB.out (a + z) : BP (wr.setCell ⟨w.heap.size, 0, none⟩ (.int .i64 (a + z))) w.heap.size (a + z) b), b_set (b_drew HT.out) (Nat.le_refl _) _⟩
          case measure => simp [intOf]; omega)
      · have HQ := Lib.hid h
        clear h
        go_wp2_with fail
        have k1 := K1.out
        have k2 := K2.out
        go_region_law (first | (go_simp; go_at_call 37; refine (i_pw t e _ (by omega) he).mono ?_; rw [← HZ.out]; rintro r w1 ⟨rfl, rfl⟩) | (go_simp; go_at_call 32; refine (i_one t _ (by omega)).mono ?_; rw [HQ.out]; rintro r w1 ⟨rfl, rfl⟩))
        all_goals clear k1 k2
        all_goals (
          go_wp2_with fail
          go_roundw
          case rel => exact ⟨t + 1, _, _, by omega, by go_num, by rw [psA, if_neg (by rw [HQ.out]; decide), ← HA.out], by rw [psB, if_neg (by rw [HQ.out]; decide), ← HBv.out, ← HZ.out], (BP.set1 HB.out (b + z) : BP (wr.setCell ⟨w.heap.size, 1, none⟩ (.int .i64 (b + z))) w.heap.size a (b + z)), b_set (b_drew HT.out) (Nat.le_refl _) _⟩
          case measure => simp [intOf]; omega)
    · obtain rfl : t = 16 := by omega
      have HA := Lib.hid ha
      have HBv := Lib.hid hb
      clear ha hb
      go_wp2_with fail
      go_quiet (fail)
      go_wp2
      exact bodyPost_ret (v := .tuple #[.int .i64 a, .int .i64 b, .bool true]) (by simp [results, Tryd.results19, go_sem]) rfl ⟨by rw [← HA.out, ← HBv.out], b_drewN HT.out _⟩
set_option maxHeartbeats 1000000 in
theorem i_eq5 (e : Nat) (he : e ≤ 6) (w : World) (hT : Tab w) :
    Calls Tryd.prog 19 #[.int .i64 5, .int .i64 (e : Nat)] w fun r w' => r = .returned (.tuple #[.int .i64 (psA e 32), .int .i64 (psB e 32), .bool true]) ∧ Below w.heap.size w w' := by
  go_enter Tryd.func19, Tryd.ntmps19
  go_wp2_with (first | (go_at_call 33; refine (i_in_t _ _ _ _ ?_ ?_).mono ?_; omega; omega; rintro e w1 ⟨rfl, rfl⟩) | (go_at_call 33; refine (i_in_f _ _ _ _ ?_).mono ?_; omega; rintro e w1 ⟨rfl, rfl⟩))
  go_loopw [19] (fun i wr => ∃ (t : Nat) (a b : Int), t ≤ 32 ∧ i = .int .i64 t ∧ a = psA e t ∧ b = psB e t ∧ BP wr w.heap.size a b ∧ Below w.heap.size w wr) (fun i _ => 32 - (intOf i).toNat)
  case atStart => exact ⟨0, 0, 0, by omega, rfl, rfl, rfl, heap_alloc_new w _, b_alloc (Below.refl _ _) _⟩
  case round =>
    obtain ⟨t, a, b, ht, rfl, ha, hb, hB, hW⟩ := hrel
    have HT := Lib.hid hW
    have HB := Lib.hid hB
    have hgl := (Array.getElem?_eq_some_iff.1 hB).1
    have c0 : wr.cell? ⟨w.heap.size, 0, none⟩ = some (.int .i64 a) := by rw [cell_of_row wr _ 0 _ _ (0, 0) hB]; rfl
    have c1 : wr.cell? ⟨w.heap.size, 1, none⟩ = some (.int .i64 b) := by rw [cell_of_row wr _ 1 _ _ (0, 0) hB]; rfl
    have f0 : ∀ i, wr.frozen? ⟨w.heap.size, i, none⟩ = false := by intro i; unfold BP at hB; simp [World.frozen?, hB]
    clear hW hB
    by_cases hlt : t < 32
    · have hlt2 : (t : Int) < 32 := by omega
      obtain ⟨a0, a1, b0, b1⟩ := ps_bd e he t (by omega)
      obtain ⟨z0, z1⟩ := pow_bd6 t e (by omega) he
      obtain ⟨z, hz⟩ : ∃ z, z = (t : Int) ^ e := ⟨_, rfl⟩
      rw [← ha] at a0 a1
      rw [← hb] at b0 b1
      rw [← hz] at z0 z1
      have K1 : Hid (IntKind.i64.wrap (a + z) = a + z) := Lib.hid (by rw [IntKind.wrap_i64]; omega)
      have K2 : Hid (IntKind.i64.wrap (b + z) = b + z) := Lib.hid (by rw [IntKind.wrap_i64]; omega)
      have HA := Lib.hid ha
      have HBv := Lib.hid hb
      have HZ := Lib.hid hz
      clear ha hb hz
      rcases sq1_le t with h | h
      · have HQ := Lib.hid h
        clear h
        go_wp2_with fail
        have k1 := K1.out
        have k2 := K2.out
        go_region_law (first | (go_simp; go_at_call 37; refine (i_pw t e _ (by omega) he).mono ?_; rw [← HZ.out]; rintro r w1 ⟨rfl, rfl⟩) | (go_simp; go_at_call 32; refine (i_one t _ (by omega)).mono ?_; rw [HQ.out]; rintro r w1 ⟨rfl, rfl⟩))
        all_goals clear k1 k2
        all_goals (
          go_wp2_with fail
          go_roundw
          case rel => exact ⟨t + 1, _, _, by omega, by go_num, by rw [psA, if_pos HQ.out, ← HA.out, ← HZ.out], by rw [psB, if_pos HQ.out, ← HBv.out], (BP.set0 HB.out (a + z) : BP (wr.setCell ⟨w.heap.size, 0, none⟩ (.int .i64 (a + z))) w.heap.size (a + z) b), b_set (b_drew HT.out) (Nat.le_refl _) _⟩
          case measure => simp [intOf]; omega)
      · have HQ := Lib.hid h
        clear h
        go_wp2_with fail
        have k1 := K1.out
        have k2 := K2.out
        go_region_law (first | (go_simp; go_at_call 37; refine (i_pw t e _ (by omega) he).mono ?_; rw [← HZ.out]; rintro r w1 ⟨rfl, rfl⟩) | (go_simp; go_at_call 32; refine (i_one t _ (by omega)).mono ?_; rw [HQ.out]; rintro r w1 ⟨rfl, rfl⟩))
        all_goals clear k1 k2
        all_goals (
          go_wp2_with fail
          go_roundw
          case rel => exact ⟨t + 1, _, _, by omega, by go_num, by rw [psA, if_neg (by rw [HQ.out]; decide), ← HA.out], by rw [psB, if_neg (by rw [HQ.out]; decide), ← HBv.out, ← HZ.out], (BP.set1 HB.out (b + z) : BP (wr.setCell ⟨w.heap.size, 1, none⟩ (.int .i64 (b + z))) w.heap.size a (b + z)), b_set (b_drew HT.out) (Nat.le_refl _) _⟩
          case measure => simp [intOf]; omega)
    · obtain rfl : t = 32 := by omega
      have HA := Lib.hid ha
      have HBv := Lib.hid hb
      clear ha hb
      go_wp2_with fail
      go_quiet (fail)
      go_wp2
      exact bodyPost_ret (v := .tuple #[.int .i64 a, .int .i64 b, .bool true]) (by simp [results, Tryd.results19, go_sem]) rfl ⟨by rw [← HA.out, ← HBv.out], b_drewN HT.out _⟩
set_option maxHeartbeats 1000000 in
theorem i_eq6 (e : Nat) (he : e ≤ 6) (w : World) (hT : Tab w) :
    Calls Tryd.prog 19 #[.int .i64 6, .int .i64 (e : Nat)] w fun r w' => r = .returned (.tuple #[.int .i64 (psA e 64), .int .i64 (psB e 64), .bool true]) ∧ Below w.heap.size w w' := by
  go_enter Tryd.func19, Tryd.ntmps19
  go_wp2_with (first | (go_at_call 33; refine (i_in_t _ _ _ _ ?_ ?_).mono ?_; omega; omega; rintro e w1 ⟨rfl, rfl⟩) | (go_at_call 33; refine (i_in_f _ _ _ _ ?_).mono ?_; omega; rintro e w1 ⟨rfl, rfl⟩))
  go_loopw [19] (fun i wr => ∃ (t : Nat) (a b : Int), t ≤ 64 ∧ i = .int .i64 t ∧ a = psA e t ∧ b = psB e t ∧ BP wr w.heap.size a b ∧ Below w.heap.size w wr) (fun i _ => 64 - (intOf i).toNat)
  case atStart => exact ⟨0, 0, 0, by omega, rfl, rfl, rfl, heap_alloc_new w _, b_alloc (Below.refl _ _) _⟩
  case round =>
    obtain ⟨t, a, b, ht, rfl, ha, hb, hB, hW⟩ := hrel
    have HT := Lib.hid hW
    have HB := Lib.hid hB
    have hgl := (Array.getElem?_eq_some_iff.1 hB).1
    have c0 : wr.cell? ⟨w.heap.size, 0, none⟩ = some (.int .i64 a) := by rw [cell_of_row wr _ 0 _ _ (0, 0) hB]; rfl
    have c1 : wr.cell? ⟨w.heap.size, 1, none⟩ = some (.int .i64 b) := by rw [cell_of_row wr _ 1 _ _ (0, 0) hB]; rfl
    have f0 : ∀ i, wr.frozen? ⟨w.heap.size, i, none⟩ = false := by intro i; unfold BP at hB; simp [World.frozen?, hB]
    clear hW hB
    by_cases hlt : t < 64
    · have hlt2 : (t : Int) < 64 := by omega
      obtain ⟨a0, a1, b0, b1⟩ := ps_bd e he t (by omega)
      obtain ⟨z0, z1⟩ := pow_bd6 t e (by omega) he
      obtain ⟨z, hz⟩ : ∃ z, z = (t : Int) ^ e := ⟨_, rfl⟩
      rw [← ha] at a0 a1
      rw [← hb] at b0 b1
      rw [← hz] at z0 z1
      have K1 : Hid (IntKind.i64.wrap (a + z) = a + z) := Lib.hid (by rw [IntKind.wrap_i64]; omega)
      have K2 : Hid (IntKind.i64.wrap (b + z) = b + z) := Lib.hid (by rw [IntKind.wrap_i64]; omega)
      have HA := Lib.hid ha
      have HBv := Lib.hid hb
      have HZ := Lib.hid hz
      clear ha hb hz
      rcases sq1_le t with h | h
      · have HQ := Lib.hid h
        clear h
        go_wp2_with fail
        have k1 := K1.out
        have k2 := K2.out
        go_region_law (first | (go_simp; go_at_call 37; refine (i_pw t e _ (by omega) he).mono ?_; rw [← HZ.out]; rintro r w1 ⟨rfl, rfl⟩) | (go_simp; go_at_call 32; refine (i_one t _ (by omega)).mono ?_; rw [HQ.out]; rintro r w1 ⟨rfl, rfl⟩))
        all_goals clear k1 k2
        all_goals (
          go_wp2_with fail
          go_roundw
          case rel => exact ⟨t + 1, _, _, by omega, by go_num, by rw [psA, if_pos HQ.out, ← HA.out, ← HZ.out], by rw [psB, if_pos HQ.out, ← HBv.out], (BP.set0 HB.out (a + z) : BP (wr.setCell ⟨w.heap.size, 0, none⟩ (.int .i64 (a + z))) w.heap.size (a + z) b), b_set (b_drew HT.out) (Nat.le_refl _) _⟩
          case measure => simp [intOf]; omega)
      · have HQ := Lib.hid h
        clear h
        go_wp2_with fail
        have k1 := K1.out
        have k2 := K2.out
        go_region_law (first | (go_simp; go_at_call 37; refine (i_pw t e _ (by omega) he).mono ?_; rw [← HZ.out]; rintro r w1 ⟨rfl, rfl⟩) | (go_simp; go_at_call 32; refine (i_one t _ (by omega)).mono ?_; rw [HQ.out]; rintro r w1 ⟨rfl, rfl⟩))
        all_goals clear k1 k2
        all_goals (
          go_wp2_with fail
          go_roundw
          case rel => exact ⟨t + 1, _, _, by omega, by go_num, by rw [psA, if_neg (by rw [HQ.out]; decide), ← HA.out], by rw [psB, if_neg (by rw [HQ.out]; decide), ← HBv.out, ← HZ.out], (BP.set1 HB.out (b + z) : BP (wr.setCell ⟨w.heap.size, 1, none⟩ (.int .i64 (b + z))) w.heap.size a (b + z)), b_set (b_drew HT.out) (Nat.le_refl _) _⟩
          case measure => simp [intOf]; omega)
    · obtain rfl : t = 64 := by omega
      have HA := Lib.hid ha
      have HBv := Lib.hid hb
      clear ha hb
      go_wp2_with fail
      go_quiet (fail)
      go_wp2
      exact bodyPost_ret (v := .tuple #[.int .i64 a, .int .i64 b, .bool true]) (by simp [results, Tryd.results19, go_sem]) rfl ⟨by rw [← HA.out, ← HBv.out], b_drewN HT.out _⟩
set_option maxHeartbeats 1000000 in
theorem i_eqb1 (k e : Int) (w : World) (h : k < 1 ∨ 6 < k) : Calls Tryd.prog 19 #[.int .i64 k, .int .i64 e] w fun r w' => r = .returned (.tuple #[.int .i64 0, .int .i64 0, .bool false]) ∧ Below w.heap.size w w' := by
  go_enter Tryd.func19, Tryd.ntmps19
  go_wp2_with (first | (go_at_call 33; refine (i_in_t _ _ _ _ ?_ ?_).mono ?_; omega; omega; rintro e w1 ⟨rfl, rfl⟩) | (go_at_call 33; refine (i_in_f _ _ _ _ ?_).mono ?_; omega; rintro e w1 ⟨rfl, rfl⟩))
  exact bodyPost_ret (v := .tuple #[.int .i64 0, .int .i64 0, .bool false]) (by simp [results, Tryd.results19, go_sem]) rfl ⟨rfl, Below.refl _ _⟩
set_option maxHeartbeats 1000000 in
theorem i_eqb2 (k e : Int) (w : World) (h1 : 1 ≤ k) (h2 : k ≤ 6) (h : e < 0 ∨ 6 < e) : Calls Tryd.prog 19 #[.int .i64 k, .int .i64 e] w fun r w' => r = .returned (.tuple #[.int .i64 0, .int .i64 0, .bool false]) ∧ Below w.heap.size w w' := by
  go_enter Tryd.func19, Tryd.ntmps19
  go_wp2_with (first | (go_at_call 33; refine (i_in_t _ _ _ _ ?_ ?_).mono ?_; omega; omega; rintro e w1 ⟨rfl, rfl⟩) | (go_at_call 33; refine (i_in_f _ _ _ _ ?_).mono ?_; omega; rintro e w1 ⟨rfl, rfl⟩))
  exact bodyPost_ret (v := .tuple #[.int .i64 0, .int .i64 0, .bool false]) (by simp [results, Tryd.results19, go_sem]) rfl ⟨rfl, Below.refl _ _⟩
theorem i_EqualPowerSums (k e : Int) (w : World) (hT : Tab w) : Calls Tryd.prog 19 #[.int .i64 k, .int .i64 e] w fun r w' => r = .returned (.tuple #[.int .i64 (eqA k e), .int .i64 (eqB k e), .bool (eqQ k e)]) ∧ Below w.heap.size w w' := by
  by_cases hk : 1 ≤ k ∧ k ≤ 6
  · by_cases he : 0 ≤ e ∧ e ≤ 6
    · obtain ⟨ee, rfl⟩ := Int.eq_ofNat_of_zero_le he.1
      have hg : 1 ≤ k ∧ k ≤ 6 ∧ 0 ≤ (ee : Int) ∧ (ee : Int) ≤ 6 := ⟨hk.1, hk.2, he.1, he.2⟩
      have e1 : eqA k ee = psA ee (2 ^ k.toNat) := by unfold eqA; rw [if_pos hg]; rfl
      have e2 : eqB k ee = psB ee (2 ^ k.toNat) := by unfold eqB; rw [if_pos hg]; rfl
      have e3 : eqQ k ee = true := decide_eq_true hg
      rw [e1, e2, e3]
      have hc : k = 1 ∨ k = 2 ∨ k = 3 ∨ k = 4 ∨ k = 5 ∨ k = 6 := by omega
      rcases hc with rfl | rfl | rfl | rfl | rfl | rfl
      · exact i_eq1 ee (by omega) w hT
      · exact i_eq2 ee (by omega) w hT
      · exact i_eq3 ee (by omega) w hT
      · exact i_eq4 ee (by omega) w hT
      · exact i_eq5 ee (by omega) w hT
      · exact i_eq6 ee (by omega) w hT
    · have hg : ¬ (1 ≤ k ∧ k ≤ 6 ∧ 0 ≤ e ∧ e ≤ 6) := fun h => he h.2.2
      rw [show eqA k e = 0 from if_neg hg, show eqB k e = 0 from if_neg hg, show eqQ k e = false from decide_eq_false hg]
      exact i_eqb2 k e w hk.1 hk.2 (by omega)
  · have hg : ¬ (1 ≤ k ∧ k ≤ 6 ∧ 0 ≤ e ∧ e ≤ 6) := fun h => hk ⟨h.1, h.2.1⟩
    rw [show eqA k e = 0 from if_neg hg, show eqB k e = 0 from if_neg hg, show eqQ k e = false from decide_eq_false hg]
    exact i_eqb1 k e w (by omega)
end Go.Proofs.YtobbbaagoiejeaaDoor
