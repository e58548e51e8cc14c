/- Values of EqualPowerSums. Conditions: the listed table. -/
import Derived.Test.YtobbbaagoiejeaaDoorWordV
import Derived.Test.YtobbbaagoiejeaaDoorPowF
import Derived.Deep.RegionLaw
import Derived.Deep.QuietTactic
import Derived.BigQuiet
import Derived.StillTailTactics
namespace Go.Proofs.YtobbbaagoiejeaaDoor
open Go.RowKit
set_option linter.unusedVariables false

def psA (e : Nat) : Nat → Int
  | 0 => 0
  | t + 1 => if sq 1 t = 0 then psA e t + (t : Int) ^ e else psA e t
def psB (e : Nat) : Nat → Int
  | 0 => 0
  | t + 1 => if sq 1 t = 0 then psB e t else psB e t + (t : Int) ^ e
theorem pow_bd6 (t e : Nat) (ht : t < 64) (he : e ≤ 6) : 0 ≤ (t : Int) ^ e ∧ (t : Int) ^ e ≤ 68719476736 := by
  refine ⟨Int.pow_nonneg (by omega), ?_⟩
  have h1 : t ^ e ≤ 64 ^ e := Nat.pow_le_pow_left (by omega) e
  have h2 : 64 ^ e ≤ 64 ^ 6 := Nat.pow_le_pow_right (by omega) he
  have h3 : t ^ e ≤ 68719476736 := Nat.le_trans h1 (Nat.le_trans h2 (by decide))
  rw [← Int.natCast_pow]
  exact Int.ofNat_le.2 h3
theorem ps_bd (e : Nat) (he : e ≤ 6) : ∀ t : Nat, t ≤ 64 → 0 ≤ psA e t ∧ psA e t ≤ t * 68719476736 ∧ 0 ≤ psB e t ∧ psB e t ≤ t * 68719476736
  | 0, _ => by simp [psA, psB]
  | t + 1, ht => by
    have h := ps_bd e he t (by omega)
    have h2 := pow_bd6 t e (by omega) he
    simp only [psA, psB]
    generalize (t : Int) ^ e = z at h2 ⊢
    split <;> omega
def eqA (k e : Int) : Int := if 1 ≤ k ∧ k ≤ 6 ∧ 0 ≤ e ∧ e ≤ 6 then psA e.toNat (2 ^ k.toNat) else 0
def eqB (k e : Int) : Int := if 1 ≤ k ∧ k ≤ 6 ∧ 0 ≤ e ∧ e ≤ 6 then psB e.toNat (2 ^ k.toNat) else 0
def eqQ (k e : Int) : Bool := decide (1 ≤ k ∧ k ≤ 6 ∧ 0 ≤ e ∧ e ≤ 6)
theorem sq1_le (t : Nat) : sq 1 t = 0 ∨ sq 1 t = 1 := by unfold sq; rw [if_pos rfl]; omega
theorem i_pw (t e : Nat) (w : World) (ht : t < 64) (he : e ≤ 6) : Calls Tryd.prog 37 #[.int .i64 (t : Nat), .int .i64 (e : Nat)] w fun r w' => r = .returned (.int .i64 ((t : Int) ^ e)) ∧ w = w' :=
  i_power (t : Int) e w (by omega) (by omega) fun j hj => by have := (pow_bd6 t j ht (by omega)).2; omega
theorem s_pw (t e : Nat) (w : World) (ht : t < 64) (he : e ≤ 6) : Calls Tryd.prog 36 #[.int .i64 (t : Nat), .int .i64 (e : Nat)] w fun r w' => r = .returned (.int .i64 ((t : Int) ^ e)) ∧ w = w' :=
  s_power (t : Int) e w (by omega) (by omega) fun j hj => by have := (pow_bd6 t j ht (by omega)).2; omega
def BP (w : World) (g : Nat) (a b : Int) : Prop := w.heap[g]? = some (.cells #[.int .i64 a, .int .i64 b] 36 (0, 0))
theorem BP.set0 {w : World} {g : Nat} {a b : Int} (h : BP w g a b) (c : Int) : BP (w.setCell ⟨g, 0, none⟩ (.int .i64 c)) g c b := by
  unfold BP at h ⊢
  simp [World.setCell, Array.getElem?_modify, h]
theorem BP.set1 {w : World} {g : Nat} {a b : Int} (h : BP w g a b) (c : Int) : BP (w.setCell ⟨g, 1, none⟩ (.int .i64 c)) g a c := by
  unfold BP at h ⊢
  simp [World.setCell, Array.getElem?_modify, h]
theorem i_one (t : Nat) (w : World) (ht : t < 64) : Calls Tryd.prog 32 #[.int .i64 1, .int .i64 (t : Nat)] w fun e w' => e = .returned (.int .i64 (sq 1 t)) ∧ w = w' := by
  have hp : pop 64 t ≤ 64 := (G_all t).2.2.2.2.2
  obtain ⟨p, hpe⟩ : ∃ p, p = pop 64 t := ⟨_, rfl⟩
  rw [← hpe] at hp
  have HPe := Lib.hid hpe
  clear hpe
  have kw : IntKind.u64.wrap (t : Int) = (t : Int) := wr64 t (by omega)
  go_enter Tryd.func32, Tryd.ntmps32
  go_wp2_with (first | (go_at_call 46; refine (ones t (by omega) _).mono ?_; rw [← HPe.out]; rintro e w1 ⟨rfl, rfl⟩))
  go_ret
  exact ⟨by unfold sq; rw [if_pos rfl, ← HPe.out]; rfl, rfl⟩
set_option maxHeartbeats 1000000 in
theorem s_eq1 (e : Nat) (he : e ≤ 6) (w : World) :
    Calls Tryd.prog 18 #[.int .i64 1, .int .i64 (e : Nat)] w fun r w' => r = .returned (.tuple #[.int .i64 (psA e 2), .int .i64 (psB e 2), .bool true]) ∧ Below w.heap.size w w' := by
  go_enter Tryd.func18, Tryd.ntmps18
  go_wp2_with (first | (go_at_call 28; refine (s_in_t _ _ _ _ ?_ ?_).mono ?_; omega; omega; rintro e w1 ⟨rfl, rfl⟩) | (go_at_call 28; refine (s_in_f _ _ _ _ ?_).mono ?_; omega; rintro e w1 ⟨rfl, rfl⟩))
  go_loopw [9, 7, 8] (fun i u v wr => ∃ t : Nat, t ≤ 2 ∧ i = .int .i64 t ∧ u = .int .i64 (psA e t) ∧ v = .int .i64 (psB e t) ∧ Below w.heap.size w wr) (fun i _ _ _ => 2 - (intOf i).toNat)
  case atStart => exact ⟨0, by omega, rfl, rfl, rfl, Below.refl _ _⟩
  case round =>
    obtain ⟨t, ht, rfl, rfl, rfl, hW⟩ := hrel
    have HT := Lib.hid hW
    clear hW
    by_cases hlt : t < 2
    · have hlt2 : (t : Int) < 2 := by omega
      obtain ⟨a0, a1, b0, b1⟩ := ps_bd e he t (by omega)
      obtain ⟨z0, z1⟩ := pow_bd6 t e (by omega) he
      obtain ⟨a, ha⟩ : ∃ a, a = psA e t := ⟨_, rfl⟩
      obtain ⟨b, hb⟩ : ∃ b, b = psB e t := ⟨_, rfl⟩
      obtain ⟨z, hz⟩ : ∃ z, z = (t : Int) ^ e := ⟨_, rfl⟩
      rw [← ha] at a0 a1
      rw [← hb] at b0 b1
      rw [← hz] at z0 z1
      rw [← ha, ← hb]
      have HA := Lib.hid ha
      have HBv := Lib.hid hb
      have HZ := Lib.hid hz
      clear ha hb hz
      rcases sq1_le t with h | h
      · have HQ := Lib.hid h
        clear h
        go_wp2_with (first | (go_at_call 36; refine (s_pw t e _ (by omega) he).mono ?_; rw [← HZ.out]; rintro r w1 ⟨rfl, rfl⟩) | (go_at_call 29; refine (s_at 1 t _ (by omega) (by omega) (by omega)).mono ?_; rw [HQ.out]; rintro r w1 ⟨rfl, hb1⟩; have HB1 := Lib.hid (b_step HT.out hb1); clear hb1))
        go_roundw
        case rel => exact ⟨t + 1, by omega, by go_num, by rw [psA, if_pos HQ.out, ← HA.out, ← HZ.out], by rw [psB, if_pos HQ.out, ← HBv.out], HB1.out⟩
        case measure => simp [intOf]; omega
      · have HQ := Lib.hid h
        clear h
        go_wp2_with (first | (go_at_call 36; refine (s_pw t e _ (by omega) he).mono ?_; rw [← HZ.out]; rintro r w1 ⟨rfl, rfl⟩) | (go_at_call 29; refine (s_at 1 t _ (by omega) (by omega) (by omega)).mono ?_; rw [HQ.out]; rintro r w1 ⟨rfl, hb1⟩; have HB1 := Lib.hid (b_step HT.out hb1); clear hb1))
        go_roundw
        case rel => exact ⟨t + 1, by omega, by go_num, by rw [psA, if_neg (by rw [HQ.out]; decide), ← HA.out], by rw [psB, if_neg (by rw [HQ.out]; decide), ← HBv.out, ← HZ.out], HB1.out⟩
        case measure => simp [intOf]; omega
    · obtain rfl : t = 2 := by omega
      obtain ⟨a, ha⟩ : ∃ a, a = psA e 2 := ⟨_, rfl⟩
      obtain ⟨b, hb⟩ : ∃ b, b = psB e 2 := ⟨_, rfl⟩
      rw [← ha, ← hb]
      go_wp2
      exact bodyPost_ret (v := .tuple #[.int .i64 a, .int .i64 b, .bool true]) (by simp [results, Tryd.results18, go_sem]) rfl ⟨by rw [ha, hb], HT.out⟩
set_option maxHeartbeats 1000000 in
theorem s_eq2 (e : Nat) (he : e ≤ 6) (w : World) :
    Calls Tryd.prog 18 #[.int .i64 2, .int .i64 (e : Nat)] w fun r w' => r = .returned (.tuple #[.int .i64 (psA e 4), .int .i64 (psB e 4), .bool true]) ∧ Below w.heap.size w w' := by
  go_enter Tryd.func18, Tryd.ntmps18
  go_wp2_with (first | (go_at_call 28; refine (s_in_t _ _ _ _ ?_ ?_).mono ?_; omega; omega; rintro e w1 ⟨rfl, rfl⟩) | (go_at_call 28; refine (s_in_f _ _ _ _ ?_).mono ?_; omega; rintro e w1 ⟨rfl, rfl⟩))
  go_loopw [9, 7, 8] (fun i u v wr => ∃ t : Nat, t ≤ 4 ∧ i = .int .i64 t ∧ u = .int .i64 (psA e t) ∧ v = .int .i64 (psB e t) ∧ Below w.heap.size w wr) (fun i _ _ _ => 4 - (intOf i).toNat)
  case atStart => exact ⟨0, by omega, rfl, rfl, rfl, Below.refl _ _⟩
  case round =>
    obtain ⟨t, ht, rfl, rfl, rfl, hW⟩ := hrel
    have HT := Lib.hid hW
    clear hW
    by_cases hlt : t < 4
    · have hlt2 : (t : Int) < 4 := by omega
      obtain ⟨a0, a1, b0, b1⟩ := ps_bd e he t (by omega)
      obtain ⟨z0, z1⟩ := pow_bd6 t e (by omega) he
      obtain ⟨a, ha⟩ : ∃ a, a = psA e t := ⟨_, rfl⟩
      obtain ⟨b, hb⟩ : ∃ b, b = psB e t := ⟨_, rfl⟩
      obtain ⟨z, hz⟩ : ∃ z, z = (t : Int) ^ e := ⟨_, rfl⟩
      rw [← ha] at a0 a1
      rw [← hb] at b0 b1
      rw [← hz] at z0 z1
      rw [← ha, ← hb]
      have HA := Lib.hid ha
      have HBv := Lib.hid hb
      have HZ := Lib.hid hz
      clear ha hb hz
      rcases sq1_le t with h | h
      · have HQ := Lib.hid h
        clear h
        go_wp2_with (first | (go_at_call 36; refine (s_pw t e _ (by omega) he).mono ?_; rw [← HZ.out]; rintro r w1 ⟨rfl, rfl⟩) | (go_at_call 29; refine (s_at 1 t _ (by omega) (by omega) (by omega)).mono ?_; rw [HQ.out]; rintro r w1 ⟨rfl, hb1⟩; have HB1 := Lib.hid (b_step HT.out hb1); clear hb1))
        go_roundw
        case rel => exact ⟨t + 1, by omega, by go_num, by rw [psA, if_pos HQ.out, ← HA.out, ← HZ.out], by rw [psB, if_pos HQ.out, ← HBv.out], HB1.out⟩
        case measure => simp [intOf]; omega
      · have HQ := Lib.hid h
        clear h
        go_wp2_with (first | (go_at_call 36; refine (s_pw t e _ (by omega) he).mono ?_; rw [← HZ.out]; rintro r w1 ⟨rfl, rfl⟩) | (go_at_call 29; refine (s_at 1 t _ (by omega) (by omega) (by omega)).mono ?_; rw [HQ.out]; rintro r w1 ⟨rfl, hb1⟩; have HB1 := Lib.hid (b_step HT.out hb1); clear hb1))
        go_roundw
        case rel => exact ⟨t + 1, by omega, by go_num, by rw [psA, if_neg (by rw [HQ.out]; decide), ← HA.out], by rw [psB, if_neg (by rw [HQ.out]; decide), ← HBv.out, ← HZ.out], HB1.out⟩
        case measure => simp [intOf]; omega
    · obtain rfl : t = 4 := by omega
      obtain ⟨a, ha⟩ : ∃ a, a = psA e 4 := ⟨_, rfl⟩
      obtain ⟨b, hb⟩ : ∃ b, b = psB e 4 := ⟨_, rfl⟩
      rw [← ha, ← hb]
      go_wp2
      exact bodyPost_ret (v := .tuple #[.int .i64 a, .int .i64 b, .bool true]) (by simp [results, Tryd.results18, go_sem]) rfl ⟨by rw [ha, hb], HT.out⟩
set_option maxHeartbeats 1000000 in
theorem s_eq3 (e : Nat) (he : e ≤ 6) (w : World) :
    Calls Tryd.prog 18 #[.int .i64 3, .int .i64 (e : Nat)] w fun r w' => r = .returned (.tuple #[.int .i64 (psA e 8), .int .i64 (psB e 8), .bool true]) ∧ Below w.heap.size w w' := by
  go_enter Tryd.func18, Tryd.ntmps18
  go_wp2_with (first | (go_at_call 28; refine (s_in_t _ _ _ _ ?_ ?_).mono ?_; omega; omega; rintro e w1 ⟨rfl, rfl⟩) | (go_at_call 28; refine (s_in_f _ _ _ _ ?_).mono ?_; omega; rintro e w1 ⟨rfl, rfl⟩))
  go_loopw [9, 7, 8] (fun i u v wr => ∃ t : Nat, t ≤ 8 ∧ i = .int .i64 t ∧ u = .int .i64 (psA e t) ∧ v = .int .i64 (psB e t) ∧ Below w.heap.size w wr) (fun i _ _ _ => 8 - (intOf i).toNat)
  case atStart => exact ⟨0, by omega, rfl, rfl, rfl, Below.refl _ _⟩
  case round =>
    obtain ⟨t, ht, rfl, rfl, rfl, hW⟩ := hrel
    have HT := Lib.hid hW
    clear hW
    by_cases hlt : t < 8
    · have hlt2 : (t : Int) < 8 := by omega
      obtain ⟨a0, a1, b0, b1⟩ := ps_bd e he t (by omega)
      obtain ⟨z0, z1⟩ := pow_bd6 t e (by omega) he
      obtain ⟨a, ha⟩ : ∃ a, a = psA e t := ⟨_, rfl⟩
      obtain ⟨b, hb⟩ : ∃ b, b = psB e t := ⟨_, rfl⟩
      obtain ⟨z, hz⟩ : ∃ z, z = (t : Int) ^ e := ⟨_, rfl⟩
      rw [← ha] at a0 a1
      rw [← hb] at b0 b1
      rw [← hz] at z0 z1
      rw [← ha, ← hb]
      have HA := Lib.hid ha
      have HBv := Lib.hid hb
      have HZ := Lib.hid hz
      clear ha hb hz
      rcases sq1_le t with h | h
      · have HQ := Lib.hid h
        clear h
        go_wp2_with (first | (go_at_call 36; refine (s_pw t e _ (by omega) he).mono ?_; rw [← HZ.out]; rintro r w1 ⟨rfl, rfl⟩) | (go_at_call 29; refine (s_at 1 t _ (by omega) (by omega) (by omega)).mono ?_; rw [HQ.out]; rintro r w1 ⟨rfl, hb1⟩; have HB1 := Lib.hid (b_step HT.out hb1); clear hb1))
        go_roundw
        case rel => exact ⟨t + 1, by omega, by go_num, by rw [psA, if_pos HQ.out, ← HA.out, ← HZ.out], by rw [psB, if_pos HQ.out, ← HBv.out], HB1.out⟩
        case measure => simp [intOf]; omega
      · have HQ := Lib.hid h
        clear h
        go_wp2_with (first | (go_at_call 36; refine (s_pw t e _ (by omega) he).mono ?_; rw [← HZ.out]; rintro r w1 ⟨rfl, rfl⟩) | (go_at_call 29; refine (s_at 1 t _ (by omega) (by omega) (by omega)).mono ?_; rw [HQ.out]; rintro r w1 ⟨rfl, hb1⟩; have HB1 := Lib.hid (b_step HT.out hb1); clear hb1))
        go_roundw
        case rel => exact ⟨t + 1, by omega, by go_num, by rw [psA, if_neg (by rw [HQ.out]; decide), ← HA.out], by rw [psB, if_neg (by rw [HQ.out]; decide), ← HBv.out, ← HZ.out], HB1.out⟩
        case measure => simp [intOf]; omega
    · obtain rfl : t = 8 := by omega
      obtain ⟨a, ha⟩ : ∃ a, a = psA e 8 := ⟨_, rfl⟩
      obtain ⟨b, hb⟩ : ∃ b, b = psB e 8 := ⟨_, rfl⟩
      rw [← ha, ← hb]
      go_wp2
      exact bodyPost_ret (v := .tuple #[.int .i64 a, .int .i64 b, .bool true]) (by simp [results, Tryd.results18, go_sem]) rfl ⟨by rw [ha, hb], HT.out⟩
set_option maxHeartbeats 1000000 in
theorem s_eq4 (e : Nat) (he : e ≤ 6) (w : World) :
    Calls Tryd.prog 18 #[.int .i64 4, .int .i64 (e : Nat)] w fun r w' => r = .returned (.tuple #[.int .i64 (psA e 16), .int .i64 (psB e 16), .bool true]) ∧ Below w.heap.size w w' := by
  go_enter Tryd.func18, Tryd.ntmps18
  go_wp2_with (first | (go_at_call 28; refine (s_in_t _ _ _ _ ?_ ?_).mono ?_; omega; omega; rintro e w1 ⟨rfl, rfl⟩) | (go_at_call 28; refine (s_in_f _ _ _ _ ?_).mono ?_; omega; rintro e w1 ⟨rfl, rfl⟩))
  go_loopw [9, 7, 8] (fun i u v wr => ∃ t : Nat, t ≤ 16 ∧ i = .int .i64 t ∧ u = .int .i64 (psA e t) ∧ v = .int .i64 (psB e t) ∧ Below w.heap.size w wr) (fun i _ _ _ => 16 - (intOf i).toNat)
  case atStart => exact ⟨0, by omega, rfl, rfl, rfl, Below.refl _ _⟩
  case round =>
    obtain ⟨t, ht, rfl, rfl, rfl, hW⟩ := hrel
    have HT := Lib.hid hW
    clear hW
    by_cases hlt : t < 16
    · have hlt2 : (t : Int) < 16 := by omega
      obtain ⟨a0, a1, b0, b1⟩ := ps_bd e he t (by omega)
      obtain ⟨z0, z1⟩ := pow_bd6 t e (by omega) he
      obtain ⟨a, ha⟩ : ∃ a, a = psA e t := ⟨_, rfl⟩
      obtain ⟨b, hb⟩ : ∃ b, b = psB e t := ⟨_, rfl⟩
      obtain ⟨z, hz⟩ : ∃ z, z = (t : Int) ^ e := ⟨_, rfl⟩
      rw [← ha] at a0 a1
      rw [← hb] at b0 b1
      rw [← hz] at z0 z1
      rw [← ha, ← hb]
      have HA := Lib.hid ha
      have HBv := Lib.hid hb
      have HZ := Lib.hid hz
      clear ha hb hz
      rcases sq1_le t with h | h
      · have HQ := Lib.hid h
        clear h
        go_wp2_with (first | (go_at_call 36; refine (s_pw t e _ (by omega) he).mono ?_; rw [← HZ.out]; rintro r w1 ⟨rfl, rfl⟩) | (go_at_call 29; refine (s_at 1 t _ (by omega) (by omega) (by omega)).mono ?_; rw [HQ.out]; rintro r w1 ⟨rfl, hb1⟩; have HB1 := Lib.hid (b_step HT.out hb1); clear hb1))
        go_roundw
        case rel => exact ⟨t + 1, by omega, by go_num, by rw [psA, if_pos HQ.out, ← HA.out, ← HZ.out], by rw [psB, if_pos HQ.out, ← HBv.out], HB1.out⟩
        case measure => simp [intOf]; omega
      · have HQ := Lib.hid h
        clear h
        go_wp2_with (first | (go_at_call 36; refine (s_pw t e _ (by omega) he).mono ?_; rw [← HZ.out]; rintro r w1 ⟨rfl, rfl⟩) | (go_at_call 29; refine (s_at 1 t _ (by omega) (by omega) (by omega)).mono ?_; rw [HQ.out]; rintro r w1 ⟨rfl, hb1⟩; have HB1 := Lib.hid (b_step HT.out hb1); clear hb1))
        go_roundw
        case rel => exact ⟨t + 1, by omega, by go_num, by rw [psA, if_neg (by rw [HQ.out]; decide), ← HA.out], by rw [psB, if_neg (by rw [HQ.out]; decide), ← HBv.out, ← HZ.out], HB1.out⟩
        case measure => simp [intOf]; omega
    · obtain rfl : t = 16 := by omega
      obtain ⟨a, ha⟩ : ∃ a, a = psA e 16 := ⟨_, rfl⟩
      obtain ⟨b, hb⟩ : ∃ b, b = psB e 16 := ⟨_, rfl⟩
      rw [← ha, ← hb]
      go_wp2
      exact bodyPost_ret (v := .tuple #[.int .i64 a, .int .i64 b, .bool true]) (by simp [results, Tryd.results18, go_sem]) rfl ⟨by rw [ha, hb], HT.out⟩
set_option maxHeartbeats 1000000 in
theorem s_eq5 (e : Nat) (he : e ≤ 6) (w : World) :
    Calls Tryd.prog 18 #[.int .i64 5, .int .i64 (e : Nat)] w fun r w' => r = .returned (.tuple #[.int .i64 (psA e 32), .int .i64 (psB e 32), .bool true]) ∧ Below w.heap.size w w' := by
  go_enter Tryd.func18, Tryd.ntmps18
  go_wp2_with (first | (go_at_call 28; refine (s_in_t _ _ _ _ ?_ ?_).mono ?_; omega; omega; rintro e w1 ⟨rfl, rfl⟩) | (go_at_call 28; refine (s_in_f _ _ _ _ ?_).mono ?_; omega; rintro e w1 ⟨rfl, rfl⟩))
  go_loopw [9, 7, 8] (fun i u v wr => ∃ t : Nat, t ≤ 32 ∧ i = .int .i64 t ∧ u = .int .i64 (psA e t) ∧ v = .int .i64 (psB e t) ∧ Below w.heap.size w wr) (fun i _ _ _ => 32 - (intOf i).toNat)
  case atStart => exact ⟨0, by omega, rfl, rfl, rfl, Below.refl _ _⟩
  case round =>
    obtain ⟨t, ht, rfl, rfl, rfl, hW⟩ := hrel
    have HT := Lib.hid hW
    clear hW
    by_cases hlt : t < 32
    · have hlt2 : (t : Int) < 32 := by omega
      obtain ⟨a0, a1, b0, b1⟩ := ps_bd e he t (by omega)
      obtain ⟨z0, z1⟩ := pow_bd6 t e (by omega) he
      obtain ⟨a, ha⟩ : ∃ a, a = psA e t := ⟨_, rfl⟩
      obtain ⟨b, hb⟩ : ∃ b, b = psB e t := ⟨_, rfl⟩
      obtain ⟨z, hz⟩ : ∃ z, z = (t : Int) ^ e := ⟨_, rfl⟩
      rw [← ha] at a0 a1
      rw [← hb] at b0 b1
      rw [← hz] at z0 z1
      rw [← ha, ← hb]
      have HA := Lib.hid ha
      have HBv := Lib.hid hb
      have HZ := Lib.hid hz
      clear ha hb hz
      rcases sq1_le t with h | h
      · have HQ := Lib.hid h
        clear h
        go_wp2_with (first | (go_at_call 36; refine (s_pw t e _ (by omega) he).mono ?_; rw [← HZ.out]; rintro r w1 ⟨rfl, rfl⟩) | (go_at_call 29; refine (s_at 1 t _ (by omega) (by omega) (by omega)).mono ?_; rw [HQ.out]; rintro r w1 ⟨rfl, hb1⟩; have HB1 := Lib.hid (b_step HT.out hb1); clear hb1))
        go_roundw
        case rel => exact ⟨t + 1, by omega, by go_num, by rw [psA, if_pos HQ.out, ← HA.out, ← HZ.out], by rw [psB, if_pos HQ.out, ← HBv.out], HB1.out⟩
        case measure => simp [intOf]; omega
      · have HQ := Lib.hid h
        clear h
        go_wp2_with (first | (go_at_call 36; refine (s_pw t e _ (by omega) he).mono ?_; rw [← HZ.out]; rintro r w1 ⟨rfl, rfl⟩) | (go_at_call 29; refine (s_at 1 t _ (by omega) (by omega) (by omega)).mono ?_; rw [HQ.out]; rintro r w1 ⟨rfl, hb1⟩; have HB1 := Lib.hid (b_step HT.out hb1); clear hb1))
        go_roundw
        case rel => exact ⟨t + 1, by omega, by go_num, by rw [psA, if_neg (by rw [HQ.out]; decide), ← HA.out], by rw [psB, if_neg (by rw [HQ.out]; decide), ← HBv.out, ← HZ.out], HB1.out⟩
        case measure => simp [intOf]; omega
    · obtain rfl : t = 32 := by omega
      obtain ⟨a, ha⟩ : ∃ a, a = psA e 32 := ⟨_, rfl⟩
      obtain ⟨b, hb⟩ : ∃ b, b = psB e 32 := ⟨_, rfl⟩
      rw [← ha, ← hb]
      go_wp2
      exact bodyPost_ret (v := .tuple #[.int .i64 a, .int .i64 b, .bool true]) (by simp [results, Tryd.results18, go_sem]) rfl ⟨by rw [ha, hb], HT.out⟩
set_option maxHeartbeats 1000000 in
theorem s_eq6 (e : Nat) (he : e ≤ 6) (w : World) :
    Calls Tryd.prog 18 #[.int .i64 6, .int .i64 (e : Nat)] w fun r w' => r = .returned (.tuple #[.int .i64 (psA e 64), .int .i64 (psB e 64), .bool true]) ∧ Below w.heap.size w w' := by
  go_enter Tryd.func18, Tryd.ntmps18
  go_wp2_with (first | (go_at_call 28; refine (s_in_t _ _ _ _ ?_ ?_).mono ?_; omega; omega; rintro e w1 ⟨rfl, rfl⟩) | (go_at_call 28; refine (s_in_f _ _ _ _ ?_).mono ?_; omega; rintro e w1 ⟨rfl, rfl⟩))
  go_loopw [9, 7, 8] (fun i u v wr => ∃ t : Nat, t ≤ 64 ∧ i = .int .i64 t ∧ u = .int .i64 (psA e t) ∧ v = .int .i64 (psB e t) ∧ Below w.heap.size w wr) (fun i _ _ _ => 64 - (intOf i).toNat)
  case atStart => exact ⟨0, by omega, rfl, rfl, rfl, Below.refl _ _⟩
  case round =>
    obtain ⟨t, ht, rfl, rfl, rfl, hW⟩ := hrel
    have HT := Lib.hid hW
    clear hW
    by_cases hlt : t < 64
    · have hlt2 : (t : Int) < 64 := by omega
      obtain ⟨a0, a1, b0, b1⟩ := ps_bd e he t (by omega)
      obtain ⟨z0, z1⟩ := pow_bd6 t e (by omega) he
      obtain ⟨a, ha⟩ : ∃ a, a = psA e t := ⟨_, rfl⟩
      obtain ⟨b, hb⟩ : ∃ b, b = psB e t := ⟨_, rfl⟩
      obtain ⟨z, hz⟩ : ∃ z, z = (t : Int) ^ e := ⟨_, rfl⟩
      rw [← ha] at a0 a1
      rw [← hb] at b0 b1
      rw [← hz] at z0 z1
      rw [← ha, ← hb]
      have HA := Lib.hid ha
      have HBv := Lib.hid hb
      have HZ := Lib.hid hz
      clear ha hb hz
      rcases sq1_le t with h | h
      · have HQ := Lib.hid h
        clear h
        go_wp2_with (first | (go_at_call 36; refine (s_pw t e _ (by omega) he).mono ?_; rw [← HZ.out]; rintro r w1 ⟨rfl, rfl⟩) | (go_at_call 29; refine (s_at 1 t _ (by omega) (by omega) (by omega)).mono ?_; rw [HQ.out]; rintro r w1 ⟨rfl, hb1⟩; have HB1 := Lib.hid (b_step HT.out hb1); clear hb1))
        go_roundw
        case rel => exact ⟨t + 1, by omega, by go_num, by rw [psA, if_pos HQ.out, ← HA.out, ← HZ.out], by rw [psB, if_pos HQ.out, ← HBv.out], HB1.out⟩
        case measure => simp [intOf]; omega
      · have HQ := Lib.hid h
        clear h
        go_wp2_with (first | (go_at_call 36; refine (s_pw t e _ (by omega) he).mono ?_; rw [← HZ.out]; rintro r w1 ⟨rfl, rfl⟩) | (go_at_call 29; refine (s_at 1 t _ (by omega) (by omega) (by omega)).mono ?_; rw [HQ.out]; rintro r w1 ⟨rfl, hb1⟩; have HB1 := Lib.hid (b_step HT.out hb1); clear hb1))
        go_roundw
        case rel => exact ⟨t + 1, by omega, by go_num, by rw [psA, if_neg (by rw [HQ.out]; decide), ← HA.out], by rw [psB, if_neg (by rw [HQ.out]; decide), ← HBv.out, ← HZ.out], HB1.out⟩
        case measure => simp [intOf]; omega
    · obtain rfl : t = 64 := by omega
      obtain ⟨a, ha⟩ : ∃ a, a = psA e 64 := ⟨_, rfl⟩
      obtain ⟨b, hb⟩ : ∃ b, b = psB e 64 := ⟨_, rfl⟩
      rw [← ha, ← hb]
      go_wp2
      exact bodyPost_ret (v := .tuple #[.int .i64 a, .int .i64 b, .bool true]) (by simp [results, Tryd.results18, go_sem]) rfl ⟨by rw [ha, hb], HT.out⟩
set_option maxHeartbeats 1000000 in
theorem s_eqb1 (k e : Int) (w : World) (h : k < 1 ∨ 6 < k) : Calls Tryd.prog 18 #[.int .i64 k, .int .i64 e] w fun r w' => r = .returned (.tuple #[.int .i64 0, .int .i64 0, .bool false]) ∧ Below w.heap.size w w' := by
  go_enter Tryd.func18, Tryd.ntmps18
  go_wp2_with (first | (go_at_call 28; refine (s_in_t _ _ _ _ ?_ ?_).mono ?_; omega; omega; rintro e w1 ⟨rfl, rfl⟩) | (go_at_call 28; refine (s_in_f _ _ _ _ ?_).mono ?_; omega; rintro e w1 ⟨rfl, rfl⟩))
  exact bodyPost_ret (v := .tuple #[.int .i64 0, .int .i64 0, .bool false]) (by simp [results, Tryd.results18, go_sem]) rfl ⟨rfl, Below.refl _ _⟩
set_option maxHeartbeats 1000000 in
theorem s_eqb2 (k e : Int) (w : World) (h1 : 1 ≤ k) (h2 : k ≤ 6) (h : e < 0 ∨ 6 < e) : Calls Tryd.prog 18 #[.int .i64 k, .int .i64 e] w fun r w' => r = .returned (.tuple #[.int .i64 0, .int .i64 0, .bool false]) ∧ Below w.heap.size w w' := by
  go_enter Tryd.func18, Tryd.ntmps18
  go_wp2_with (first | (go_at_call 28; refine (s_in_t _ _ _ _ ?_ ?_).mono ?_; omega; omega; rintro e w1 ⟨rfl, rfl⟩) | (go_at_call 28; refine (s_in_f _ _ _ _ ?_).mono ?_; omega; rintro e w1 ⟨rfl, rfl⟩))
  exact bodyPost_ret (v := .tuple #[.int .i64 0, .int .i64 0, .bool false]) (by simp [results, Tryd.results18, go_sem]) rfl ⟨rfl, Below.refl _ _⟩
theorem s_EqualPowerSums (k e : Int) (w : World) : Calls Tryd.prog 18 #[.int .i64 k, .int .i64 e] w fun r w' => r = .returned (.tuple #[.int .i64 (eqA k e), .int .i64 (eqB k e), .bool (eqQ k e)]) ∧ Below w.heap.size w w' := by
  by_cases hk : 1 ≤ k ∧ k ≤ 6
  · by_cases he : 0 ≤ e ∧ e ≤ 6
    · obtain ⟨ee, rfl⟩ := Int.eq_ofNat_of_zero_le he.1
      have hg : 1 ≤ k ∧ k ≤ 6 ∧ 0 ≤ (ee : Int) ∧ (ee : Int) ≤ 6 := ⟨hk.1, hk.2, he.1, he.2⟩
      have e1 : eqA k ee = psA ee (2 ^ k.toNat) := by unfold eqA; rw [if_pos hg]; rfl
      have e2 : eqB k ee = psB ee (2 ^ k.toNat) := by unfold eqB; rw [if_pos hg]; rfl
      have e3 : eqQ k ee = true := decide_eq_true hg
      rw [e1, e2, e3]
      have hc : k = 1 ∨ k = 2 ∨ k = 3 ∨ k = 4 ∨ k = 5 ∨ k = 6 := by omega
      rcases hc with rfl | rfl | rfl | rfl | rfl | rfl
      · exact s_eq1 ee (by omega) w
      · exact s_eq2 ee (by omega) w
      · exact s_eq3 ee (by omega) w
      · exact s_eq4 ee (by omega) w
      · exact s_eq5 ee (by omega) w
      · exact s_eq6 ee (by omega) w
    · have hg : ¬ (1 ≤ k ∧ k ≤ 6 ∧ 0 ≤ e ∧ e ≤ 6) := fun h => he h.2.2
      rw [show eqA k e = 0 from if_neg hg, show eqB k e = 0 from if_neg hg, show eqQ k e = false from decide_eq_false hg]
      exact s_eqb2 k e w hk.1 hk.2 (by omega)
  · have hg : ¬ (1 ≤ k ∧ k ≤ 6 ∧ 0 ≤ e ∧ e ≤ 6) := fun h => hk ⟨h.1, h.2.1⟩
    rw [show eqA k e = 0 from if_neg hg, show eqB k e = 0 from if_neg hg, show eqQ k e = false from decide_eq_false hg]
    exact s_eqb1 k e w (by omega)
end Go.Proofs.YtobbbaagoiejeaaDoor
